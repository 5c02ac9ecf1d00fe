/- Contracts, packed: Kc Match Yb Se Ue. -/
import Derived.Test.YtipafbppaaflcaaDoorPu1
import Derived.Test.YtipafbppaaflcaaDoorPu2
import Derived.Test.YtipafbppaaflcaaDoorPu3
set_option linter.unusedVariables false
set_option linter.unusedSimpArgs false
namespace Go.Proofs.YtipafbppaaflcaaDoor
section
open Go.RowKit
theorem kletter_any (c : UInt8) (w : World) : Calls Tryd.prog 96 #[.int .u8 (c.toNat : Int)] w fun e w' => e = .returned (.bool (letB c)) ∧ w = w' := by
 obtain ⟨x, hx⟩ : ∃ x, c.toNat = x := ⟨_, rfl⟩
 have e : letB c = (decide (97 ≤ x) && decide (x ≤ 122)) := by unfold letB; rw [hx]
 rw [e, hx]
 clear e hx
 by_cases h : 97 ≤ x
 ·by_cases h2 : x ≤ 122
  ·have E := Lib.hid (show (decide (97 ≤ x) && decide (x ≤ 122)) = true by simp [h, h2])
   go_enter Tryd.func96, Tryd.ntmps96
   go_wp2
   go_ret
   exact ⟨ret_bool (by first | rfl | (rw [E.out]; try (simp; try omega))), rfl⟩
  ·have E := Lib.hid (show (decide (97 ≤ x) && decide (x ≤ 122)) = false by simp [h2])
   go_enter Tryd.func96, Tryd.ntmps96
   go_wp2
   go_ret
   exact ⟨ret_bool (by first | rfl | (rw [E.out]; try (simp; try omega))), rfl⟩
 ·have E := Lib.hid (show (decide (97 ≤ x) && decide (x ≤ 122)) = false by simp [h])
  go_enter Tryd.func96, Tryd.ntmps96
  go_wp2
  go_ret
  exact ⟨ret_bool (by first | rfl | (rw [E.out]; try (simp; try omega))), rfl⟩
theorem kdigit_any (c : UInt8) (w : World) : Calls Tryd.prog 98 #[.int .u8 (c.toNat : Int)] w fun e w' => e = .returned (.bool (digB c)) ∧ w = w' := by
 obtain ⟨x, hx⟩ : ∃ x, c.toNat = x := ⟨_, rfl⟩
 have e : digB c = (decide (48 ≤ x) && decide (x ≤ 57)) := by unfold digB; rw [hx]
 rw [e, hx]
 clear e hx
 by_cases h : 48 ≤ x
 ·by_cases h2 : x ≤ 57
  ·have E := Lib.hid (show (decide (48 ≤ x) && decide (x ≤ 57)) = true by simp [h, h2])
   go_enter Tryd.func98, Tryd.ntmps98
   go_wp2
   go_ret
   exact ⟨ret_bool (by first | rfl | (rw [E.out]; try (simp; try omega))), rfl⟩
  ·have E := Lib.hid (show (decide (48 ≤ x) && decide (x ≤ 57)) = false by simp [h2])
   go_enter Tryd.func98, Tryd.ntmps98
   go_wp2
   go_ret
   exact ⟨ret_bool (by first | rfl | (rw [E.out]; try (simp; try omega))), rfl⟩
 ·have E := Lib.hid (show (decide (48 ≤ x) && decide (x ≤ 57)) = false by simp [h])
  go_enter Tryd.func98, Tryd.ntmps98
  go_wp2
  go_ret
  exact ⟨ret_bool (by first | rfl | (rw [E.out]; try (simp; try omega))), rfl⟩
set_option maxHeartbeats 400000 in
theorem kword1_any (c : UInt8) (w : World) : Calls Tryd.prog 116 #[.int .u8 (c.toNat : Int)] w fun e w' => e = .returned (.bool (wrdB c)) ∧ w = w' := by
 obtain ⟨a, ha⟩ : ∃ a, letB c = a := ⟨_, rfl⟩
 obtain ⟨b, hb⟩ : ∃ b, digB c = b := ⟨_, rfl⟩
 obtain ⟨d, hd⟩ : ∃ d, (c.toNat == 95) = d := ⟨_, rfl⟩
 have e : wrdB c = (a || b || d) := by unfold wrdB; rw [ha, hb, hd]
 have hd2 : ((c.toNat : Int) == 95) = d := by rw [← hd]; rw [Bool.eq_iff_iff, beq_iff_eq, beq_iff_eq]; omega
 have HA : Box (∀ w, Calls Tryd.prog 96 #[.int .u8 (c.toNat : Int)] w fun e w' => e = .returned (.bool a) ∧ w = w') := ⟨fun w => by rw [← ha]; exact kletter_any c w⟩
 have HB : Box (∀ w, Calls Tryd.prog 98 #[.int .u8 (c.toNat : Int)] w fun e w' => e = .returned (.bool b) ∧ w = w') := ⟨fun w => by rw [← hb]; exact kdigit_any c w⟩
 rw [e]
 clear e hd ha hb
 cases a <;> cases b
 all_goals
  go_enter Tryd.func116, Tryd.ntmps116
  go_wp2_with (first
   | (go_at_call 96; (with_reducible refine (HA.out _).mono ?_); rintro e w' ⟨rfl, rfl⟩)
   | (go_at_call 98; (with_reducible refine (HB.out _).mono ?_); rintro e w' ⟨rfl, rfl⟩))
  go_ret
  exact ⟨rfl, rfl⟩
/-- the source at q -/
abbrev Src (w : World) (q : Nat) (s : ByteArray) (i e : Int) : Prop := Blk w q 122 #[.string s, .int .i64 i, .int .i64 e]
def twN (f : UInt8 → Bool) (s : ByteArray) (k : Nat) : Nat := ((s.data.toList.drop k).takeWhile f).length
theorem data_size (s : ByteArray) : s.data.toList.length = s.size := by show s.data.toList.length = s.data.size; simp
theorem kdrop_at {s : ByteArray} {k : Nat} (h : k < s.size) : s.data.toList.drop k = s[k] :: s.data.toList.drop (k + 1) := by
 rw [List.drop_eq_getElem_cons (by rw [data_size]; exact h)]
 rfl
theorem twN_step {f : UInt8 → Bool} {s : ByteArray} {k : Nat} (h : k < s.size) (hf : f s[k] = true) : twN f s k = twN f s (k + 1) + 1 := by
 unfold twN; rw [kdrop_at h, List.takeWhile_cons, hf]; simp
theorem twN_stop {f : UInt8 → Bool} {s : ByteArray} {k : Nat} (h : k < s.size) (hf : f s[k] = false) : twN f s k = 0 := by
 unfold twN; rw [kdrop_at h, List.takeWhile_cons, hf]; simp
theorem twN_end {f : UInt8 → Bool} {s : ByteArray} {k : Nat} (h : s.size ≤ k) : twN f s k = 0 := by
 unfold twN; rw [List.drop_eq_nil_of_le (by rw [data_size]; exact h)]; simp
theorem twN_le {f : UInt8 → Bool} {s : ByteArray} {k : Nat} (h : k ≤ s.size) : k + twN f s k ≤ s.size := by
 have h1 := List.takeWhile_prefix f (l := s.data.toList.drop k) |>.length_le
 have h2 : (s.data.toList.drop k).length = s.size - k := by rw [List.length_drop, data_size]
 unfold twN; omega
set_option maxHeartbeats 400000 in
theorem krun_word (q k0 : Nat) (s : ByteArray) (i er : Int) (w : World) (h : Src w q s i er) (hk : k0 ≤ s.size) (hs : s.size ≤ 4000) :
  Calls Tryd.prog 115 #[.pointer (some ⟨q, 0, none⟩), .int .i64 k0, .func (.func 116) #[] #[]] w fun e w' => e = .returned (.int .i64 ((k0 + twN wrdB s k0 : Nat) : Int)) ∧ w = w' := by
 obtain ⟨c0, c1, c2⟩ := h.c3
 obtain ⟨en, HE⟩ : ∃ en, Box (k0 + twN wrdB s k0 = en) := ⟨_, ⟨rfl⟩⟩
 rw [HE.out]
 clear h
 go_enter Tryd.func115, Tryd.ntmps115
 go_wp2_with fail
 go_loop [1] (fun v => ∃ k : Nat, v = .int .i64 k ∧ k ≤ s.size ∧ Hid (k + twN wrdB s k = en)) (fun v => s.size - (intOf v).toNat)
 case atStart => exact ⟨k0, rfl, hk, HE.out⟩
 case round =>
  obtain ⟨k, rfl, hk2, HK⟩ := hrel
  by_cases hlt : k < s.size
  ·have hlt2 : (k : Int) < (s.size : Int) := by omega
   obtain ⟨b, hb⟩ : ∃ b, wrdB s[k] = b := ⟨_, rfl⟩
   have HC : Box (∀ w, Calls Tryd.prog 116 #[.int .u8 (s[k].toNat : Int)] w fun e w' => e = .returned (.bool b) ∧ w = w') := ⟨fun w => by rw [← hb]; exact kword1_any _ w⟩
   cases b
   ·have HN : Hid (k = en) := by have := HK.out; rw [twN_stop hlt hb] at this; exact this
    clear hb
    go_wp2_with (go_at_call 116; (with_reducible refine (HC.out _).mono ?_); rintro e w' ⟨rfl, rfl⟩)
    go_ret
    exact ⟨ret_int (by rw [HN.out]), rfl⟩
   ·have HN : Hid (k + 1 + twN wrdB s (k + 1) = en) := by have h5 := HK.out; rw [twN_step hlt hb] at h5; show k + 1 + twN wrdB s (k + 1) = en; omega
    clear hb
    go_wp2_with (go_at_call 116; (with_reducible refine (HC.out _).mono ?_); rintro e w' ⟨rfl, rfl⟩)
    go_round
    case rel => exact ⟨k + 1, by go_num, by omega, HN.out⟩
    case measure => simp [intOf]; omega
  ·have hlt2 : ¬ (k : Int) < (s.size : Int) := by omega
   have HN : Hid (k = en) := by have := HK.out; rw [twN_end (by omega)] at this; exact this
   go_wp2_with fail
   go_ret
   exact ⟨ret_int (by rw [HN.out]), rfl⟩
set_option maxHeartbeats 400000 in
theorem krun_digit (q k0 : Nat) (s : ByteArray) (i er : Int) (w : World) (h : Src w q s i er) (hk : k0 ≤ s.size) (hs : s.size ≤ 4000) :
  Calls Tryd.prog 115 #[.pointer (some ⟨q, 0, none⟩), .int .i64 k0, .func (.func 98) #[] #[]] w fun e w' => e = .returned (.int .i64 ((k0 + twN digB s k0 : Nat) : Int)) ∧ w = w' := by
 obtain ⟨c0, c1, c2⟩ := h.c3
 obtain ⟨en, HE⟩ : ∃ en, Box (k0 + twN digB s k0 = en) := ⟨_, ⟨rfl⟩⟩
 rw [HE.out]
 clear h
 go_enter Tryd.func115, Tryd.ntmps115
 go_wp2_with fail
 go_loop [1] (fun v => ∃ k : Nat, v = .int .i64 k ∧ k ≤ s.size ∧ Hid (k + twN digB s k = en)) (fun v => s.size - (intOf v).toNat)
 case atStart => exact ⟨k0, rfl, hk, HE.out⟩
 case round =>
  obtain ⟨k, rfl, hk2, HK⟩ := hrel
  by_cases hlt : k < s.size
  ·have hlt2 : (k : Int) < (s.size : Int) := by omega
   obtain ⟨b, hb⟩ : ∃ b, digB s[k] = b := ⟨_, rfl⟩
   have HC : Box (∀ w, Calls Tryd.prog 98 #[.int .u8 (s[k].toNat : Int)] w fun e w' => e = .returned (.bool b) ∧ w = w') := ⟨fun w => by rw [← hb]; exact kdigit_any _ w⟩
   cases b
   ·have HN : Hid (k = en) := by have := HK.out; rw [twN_stop hlt hb] at this; exact this
    clear hb
    go_wp2_with (go_at_call 98; (with_reducible refine (HC.out _).mono ?_); rintro e w' ⟨rfl, rfl⟩)
    go_ret
    exact ⟨ret_int (by rw [HN.out]), rfl⟩
   ·have HN : Hid (k + 1 + twN digB s (k + 1) = en) := by have h5 := HK.out; rw [twN_step hlt hb] at h5; show k + 1 + twN digB s (k + 1) = en; omega
    clear hb
    go_wp2_with (go_at_call 98; (with_reducible refine (HC.out _).mono ?_); rintro e w' ⟨rfl, rfl⟩)
    go_round
    case rel => exact ⟨k + 1, by go_num, by omega, HN.out⟩
    case measure => simp [intOf]; omega
  ·have hlt2 : ¬ (k : Int) < (s.size : Int) := by omega
   have HN : Hid (k = en) := by have := HK.out; rw [twN_end (by omega)] at this; exact this
   go_wp2_with fail
   go_ret
   exact ⟨ret_int (by rw [HN.out]), rfl⟩
end
section
open Go.RowKit
abbrev Mat := ByteArray × Int × ByteArray
def matCells (x : Mat) : List Value := [.string x.1, .int .i64 x.2.1, .string x.2.2]
theorem flat_len {α : Type} (f : α → List Value) (size : Nat) (hf : ∀ x, (f x).length = size) (l : List α) : (l.flatMap f).length = l.length * size := by
 induction l with
 | nil => simp
 | cons x r ih => rw [List.flatMap_cons, List.length_append, ih, hf, List.length_cons, Nat.succ_mul]; omega
theorem flat_get {α : Type} (f : α → List Value) (size : Nat) (hf : ∀ x, (f x).length = size) (l : List α) (i j : Nat) (x : α) (hi : l[i]? = some x) (hj : j < size) :
  (l.flatMap f)[i * size + j]? = (f x)[j]? := by
 induction l generalizing i with
 | nil => simp at hi
 | cons y r ih =>
  rw [List.flatMap_cons]
  cases i with
  | zero =>
   simp at hi; subst hi
   rw [List.getElem?_append_left (by rw [hf]; omega)]; simp
  | succ i =>
   simp at hi
   rw [List.getElem?_append_right (by rw [hf, Nat.succ_mul]; omega), hf]
   rw [show (i + 1) * size + j - size = i * size + j by rw [Nat.succ_mul]; omega]
   exact ih i hi
def Mats (w : World) (base : Nat) (v : Value) (l : List Mat) : Prop := Seq w base 71 3 v l.length (l.flatMap matCells)
theorem Mats.at_ {w : World} {base : Nat} {A : Option Addr} {n c : Nat} {l : List Mat} (h : Mats w base (.slice A n c) l) (k : Nat) (x : Mat) (hk : l[k]? = some x) :
  ∃ b off, A = some ⟨b, off, none⟩ ∧ b < w.heap.size ∧ w.cell? ⟨b, off + k * 3, none⟩ = some (.string x.1) ∧ w.cell? ⟨b, off + k * 3 + 1, none⟩ = some (.int .i64 x.2.1) ∧ w.cell? ⟨b, off + k * 3 + 2, none⟩ = some (.string x.2.2) := by
 obtain ⟨_, A', c', hv, _, _, h2⟩ := h
 cases hv
 have hlt : k < l.length := (List.getElem?_eq_some_iff.1 hk).1
 obtain ⟨b, off, rfl, hf, hx⟩ := h2 (by omega)
 refine ⟨b, off, rfl, hf.1, ?_, ?_, ?_⟩
 ·have := flat_get matCells 3 (fun _ => rfl) l k 0 x hk (by omega)
  exact hx _ _ (this.trans rfl)
 ·have := flat_get matCells 3 (fun _ => rfl) l k 1 x hk (by omega)
  have := hx _ _ (this.trans rfl)
  rwa [← Nat.add_assoc] at this
 ·have := flat_get matCells 3 (fun _ => rfl) l k 2 x hk (by omega)
  have := hx _ _ (this.trans rfl)
  rwa [← Nat.add_assoc] at this
end
section
open Go.RowKit
def RetB (v : Value) (w : World) (e : Ending) (w' : World) : Prop := e = .returned v ∧ Below w.heap.size w w'
/-- what the program's own variables hold -/
structure WordsW (w : World) : Prop where
 groups : ∀ k : Nat, k < 5 → ∃ s : ByteArray, w.cell? ⟨1, k, none⟩ = some (.string s) ∧ (s.toList == [114, 101, 113]) = false
 low : 1 < w.heap.size ∧ 1 < w.heap.size
end
section
open Go.RowKit FracM
end
section
open Go.RowKit
/-- a number read: the octet's place, the sum so far, the bytes left -/
def urd : Nat → Nat → List Nat → Option (Nat × List Nat)
 | _, _, [] => none
 | i, acc, c :: r => if (i = 9 ∧ 1 < c) ∨ (0 < i ∧ c = 0) then none else if c < 128 then some (acc + c % 128 * 128 ^ i, r) else urd (i + 1) (acc + c % 128 * 128 ^ i) r
theorem pow_step (i q a c : Nat) : a + c * 128 ^ i + q * 128 ^ (i + 1) = a + (c + 128 * q) * 128 ^ i := by
 rw [Nat.pow_succ, Nat.add_mul, Nat.mul_assoc 128, ← Nat.mul_assoc q, Nat.mul_comm (q * 128 ^ i) 128]
 omega
theorem two_step {i : Nat} (h : i ≤ 8) : 2 ^ (64 - 7 * i) = 128 * 2 ^ (64 - 7 * (i + 1)) := by
 rw [show 64 - 7 * i = (64 - 7 * (i + 1)) + 7 by omega, Nat.pow_add]
 omega
theorem two_nine : 2 ^ (64 - 7 * 9) = 2 := rfl
theorem two_big {i : Nat} (h : i ≤ 8) : 128 ≤ 2 ^ (64 - 7 * i) := by
 rw [two_step h]
 have : 0 < 2 ^ (64 - 7 * (i + 1)) := Nat.pow_pos (by omega)
 omega
theorem urd_uv : ∀ (n i acc : Nat) (r : List Nat), i ≤ 9 → n < 2 ^ (64 - 7 * i) → (0 < i → 0 < n) → urd i acc (uvN n ++ r) = some (acc + n * 128 ^ i, r) := by
 intro n
 induction n using Nat.strongRecOn with
 | _ n ih =>
  intro i acc r hi hn h0
  by_cases h : n < 128
  ·rw [uvN_small h, List.cons_append, List.nil_append, urd, if_neg ?_, if_pos h, Nat.mod_eq_of_lt h]
   rintro (⟨rfl, h1⟩ | ⟨h1, rfl⟩)
   ·rw [two_nine] at hn; omega
   ·have := h0 h1; omega
  ·have h8 : i ≤ 8 := by
    rcases Nat.lt_or_ge i 9 with h9 | h9
    ·omega
    ·obtain rfl : i = 9 := by omega
     rw [two_nine] at hn; omega
   rw [uvN_big h, List.cons_append, urd, if_neg (by omega), if_neg (by omega), ih (n / 128) (by omega) (i + 1) _ r (by omega) ?_ (by intro _; omega)]
   ·rw [show (n % 128 + 128) % 128 = n % 128 by omega, pow_step, show n % 128 + 128 * (n / 128) = n by omega]
   ·rw [two_step h8] at hn
    exact Nat.div_lt_of_lt_mul hn
theorem urd_back : ∀ (l : List Nat) (i acc m : Nat) (r : List Nat), (∀ x ∈ l, x < 256) → i ≤ 9 → urd i acc l = some (m, r) → ∃ n, l = uvN n ++ r ∧ m = acc + n * 128 ^ i ∧ (0 < i → 0 < n) ∧ n < 2 ^ (64 - 7 * i) := by
 intro l
 induction l with
 | nil => intro i acc m r _ _ h; rw [urd] at h; cases h
 | cons c q ih =>
  intro i acc m r hx hi h
  have hc := hx c (by simp)
  rw [urd] at h
  split at h
  ·cases h
  next hno =>
  by_cases h1 : c < 128
  ·rw [if_pos h1] at h
   simp only [Option.some.injEq, Prod.mk.injEq] at h
   obtain ⟨rfl, rfl⟩ := h
   refine ⟨c, by rw [uvN_small h1]; rfl, by rw [Nat.mod_eq_of_lt h1], fun h => by omega, ?_⟩
   rcases Nat.lt_or_ge i 9 with h9 | h9
   ·exact Nat.lt_of_lt_of_le h1 (two_big (by omega))
   ·obtain rfl : i = 9 := by omega
    rw [two_nine]; omega
  ·rw [if_neg h1] at h
   have h8 : i ≤ 8 := by omega
   obtain ⟨n, e1, e2, e3, e4⟩ := ih (i + 1) _ m r (fun x h => hx x (by simp [h])) (by omega) h
   have := e3 (by omega)
   refine ⟨c % 128 + 128 * n, ?_, by rw [e2, pow_step], fun _ => by omega, ?_⟩
   ·rw [uvN_big (by omega), show (c % 128 + 128 * n) % 128 + 128 = c by omega, show (c % 128 + 128 * n) / 128 = n by omega, e1]
    rfl
   ·rw [two_step h8]
    omega
/-- a reader: the bytes left, or an error -/
abbrev Rst := Option (List Nat)
def rdU : Rst → Nat × Rst
 | none => (0, none)
 | some l => match urd 0 0 l with
  | none => (0, none)
  | some (n, r) => (n, some r)
def rdI (s : Rst) : Int × Rst := (zag (rdU s).1, (rdU s).2)
def strN (l : List Nat) : ByteArray := ⟨(l.map UInt8.ofNat).toArray⟩
def rdT (s : Rst) : ByteArray × Rst :=
 match (rdU s).2 with
 | none => (⟨#[]⟩, none)
 | some l => if (rdU s).1 ≤ l.length then (strN (l.take (rdU s).1), some (l.drop (rdU s).1)) else (⟨#[]⟩, none)
def encI (n : Int) : List Nat := uvN (zig n)
def encS (s : ByteArray) : List Nat := uvN s.size ++ s.data.toList.map (·.toNat)
theorem rdU_uv {n : Nat} (h : n < 18446744073709551616) (r : List Nat) : rdU (some (uvN n ++ r)) = (n, some r) := by
 unfold rdU
 simp only
 rw [urd_uv n 0 0 r (by omega) (by simpa using h) (by omega)]
 simp
theorem rdU_back {l r : List Nat} {n : Nat} (hx : ∀ x ∈ l, x < 256) (h : rdU (some l) = (n, some r)) : l = uvN n ++ r ∧ n < 18446744073709551616 := by
 unfold rdU at h
 simp only at h
 cases hu : urd 0 0 l with
 | none => rw [hu] at h; simp at h
 | some p =>
  obtain ⟨m, q⟩ := p
  rw [hu] at h
  simp only [Prod.mk.injEq, Option.some.injEq] at h
  obtain ⟨rfl, rfl⟩ := h
  obtain ⟨n, e1, e2, -, e4⟩ := urd_back l 0 0 m q hx (by omega) hu
  obtain rfl : m = n := by rw [e2]; simp
  exact ⟨e1, by simpa using e4⟩
theorem zig_zag (z : Nat) : zig (zag z) = z := by
 unfold zig zag
 split
 ·split <;> omega
 ·split <;> omega
theorem zag_bd {z : Nat} (h : z < 18446744073709551616) : -9223372036854775808 ≤ zag z ∧ zag z ≤ 9223372036854775807 := by
 unfold zag; split <;> omega
theorem rdI_enc {n : Int} (h1 : -9223372036854775808 ≤ n) (h2 : n ≤ 9223372036854775807) (r : List Nat) : rdI (some (encI n ++ r)) = (n, some r) := by
 unfold rdI encI
 rw [rdU_uv (zig_lt h1 h2)]
 simp only [zag_zig]
theorem rdI_back {l r : List Nat} {n : Int} (hx : ∀ x ∈ l, x < 256) (h : rdI (some l) = (n, some r)) : l = encI n ++ r ∧ -9223372036854775808 ≤ n ∧ n ≤ 9223372036854775807 := by
 unfold rdI at h
 simp only [Prod.mk.injEq] at h
 obtain ⟨h1, h2⟩ := h
 obtain ⟨e1, e2⟩ := rdU_back (n := (rdU (some l)).1) hx (by rw [← h2])
 subst h1
 exact ⟨by unfold encI; rw [zig_zag]; exact e1, zag_bd e2⟩
theorem strN_back (s : ByteArray) : strN (s.data.toList.map (·.toNat)) = s := by
 unfold strN
 apply ByteArray.ext
 simp [Function.comp_def]
theorem toNat_of (x : Nat) (h : x < 256) : (UInt8.ofNat x).toNat = x := by
 rw [UInt8.toNat_ofNat']
 exact Nat.mod_eq_of_lt h
theorem strN_nums (l : List Nat) (h : ∀ x ∈ l, x < 256) : (strN l).data.toList.map (·.toNat) = l := by
 unfold strN
 show ((l.map UInt8.ofNat).toArray.toList.map (·.toNat)) = l
 rw [List.toList_toArray, List.map_map]
 exact (List.map_congr_left fun x hx => (toNat_of x (h x hx))).trans (List.map_id l)
theorem strN_size (l : List Nat) : (strN l).size = l.length := by
 unfold strN
 show (l.map UInt8.ofNat).toArray.size = l.length
 rw [List.size_toArray, List.length_map]
theorem rdT_enc {s : ByteArray} (h : s.size < 18446744073709551616) (r : List Nat) : rdT (some (encS s ++ r)) = (s, some r) := by
 have hl : (s.data.toList.map (·.toNat)).length = s.size := by rw [List.length_map]; exact Array.length_toList
 unfold rdT encS
 rw [List.append_assoc, rdU_uv h]
 simp only [List.length_append, hl]
 rw [if_pos (by omega), List.take_left' hl, List.drop_left' hl, strN_back]
theorem rdT_back {l r : List Nat} {s : ByteArray} (hx : ∀ x ∈ l, x < 256) (h : rdT (some l) = (s, some r)) : l = encS s ++ r := by
 unfold rdT at h
 cases hu : (rdU (some l)).2 with
 | none => rw [hu] at h; simp at h
 | some q =>
  rw [hu] at h
  simp only at h
  split at h
  ·next hle =>
   simp only [Prod.mk.injEq, Option.some.injEq] at h
   obtain ⟨rfl, rfl⟩ := h
   obtain ⟨e1, e2⟩ := rdU_back (n := (rdU (some l)).1) (r := q) hx (by rw [← hu])
   have hq : ∀ x ∈ q, x < 256 := fun x h => hx x (by rw [e1]; simp [h])
   unfold encS
   rw [strN_size, strN_nums _ fun x h => hq x (List.mem_of_mem_take h), List.length_take, Nat.min_eq_left hle, List.append_assoc, List.take_append_drop]
   exact e1
  ·simp at h
end
end Go.Proofs.YtipafbppaaflcaaDoor
