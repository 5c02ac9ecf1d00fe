/- Contracts, packed: Ue Match Yb Kc Se. -/
import Derived.Test.YtkdojgkiclndfaaGreatDoorPz1
import Derived.Test.YtkdojgkiclndfaaGreatDoorPz2
import Derived.Test.YtkdojgkiclndfaaGreatDoorPz3
set_option linter.unusedVariables false
set_option linter.unusedSimpArgs false
namespace Go.Proofs.YtkdojgkiclndfaaGreatDoor
section
open Go.RowKit
def encI (n : Int) : List Nat := uvN (zig n)
def encS (s : ByteArray) : List Nat := uvN s.size ++ s.data.toList.map (·.toNat)
end
section
open Go.RowKit
abbrev Mat := ByteArray × Int × ByteArray
def matCells (x : Mat) : List Value := [.string x.1, .int .i64 x.2.1, .string x.2.2]
theorem flat_len {α : Type} (f : α → List Value) (size : Nat) (hf : ∀ x, (f x).length = size) (l : List α) : (l.flatMap f).length = l.length * size := by
 induction l with
 | nil => simp
 | cons x r ih => rw [List.flatMap_cons, List.length_append, ih, hf, List.length_cons, Nat.succ_mul]; omega
theorem flat_get {α : Type} (f : α → List Value) (size : Nat) (hf : ∀ x, (f x).length = size) (l : List α) (i j : Nat) (x : α) (hi : l[i]? = some x) (hj : j < size) :
  (l.flatMap f)[i * size + j]? = (f x)[j]? := by
 induction l generalizing i with
 | nil => simp at hi
 | cons y r ih =>
  rw [List.flatMap_cons]
  cases i with
  | zero =>
   simp at hi; subst hi
   rw [List.getElem?_append_left (by rw [hf]; omega)]; simp
  | succ i =>
   simp at hi
   rw [List.getElem?_append_right (by rw [hf, Nat.succ_mul]; omega), hf]
   rw [show (i + 1) * size + j - size = i * size + j by rw [Nat.succ_mul]; omega]
   exact ih i hi
def Mats (w : World) (base : Nat) (v : Value) (l : List Mat) : Prop := Seq w base 86 3 v l.length (l.flatMap matCells)
theorem Mats.at_ {w : World} {base : Nat} {A : Option Addr} {n c : Nat} {l : List Mat} (h : Mats w base (.slice A n c) l) (k : Nat) (x : Mat) (hk : l[k]? = some x) :
  ∃ b off, A = some ⟨b, off, none⟩ ∧ b < w.heap.size ∧ w.cell? ⟨b, off + k * 3, none⟩ = some (.string x.1) ∧ w.cell? ⟨b, off + k * 3 + 1, none⟩ = some (.int .i64 x.2.1) ∧ w.cell? ⟨b, off + k * 3 + 2, none⟩ = some (.string x.2.2) := by
 obtain ⟨_, A', c', hv, _, _, h2⟩ := h
 cases hv
 have hlt : k < l.length := (List.getElem?_eq_some_iff.1 hk).1
 obtain ⟨b, off, rfl, hf, hx⟩ := h2 (by omega)
 refine ⟨b, off, rfl, hf.1, ?_, ?_, ?_⟩
 ·have := flat_get matCells 3 (fun _ => rfl) l k 0 x hk (by omega)
  exact hx _ _ (this.trans rfl)
 ·have := flat_get matCells 3 (fun _ => rfl) l k 1 x hk (by omega)
  have := hx _ _ (this.trans rfl)
  rwa [← Nat.add_assoc] at this
 ·have := flat_get matCells 3 (fun _ => rfl) l k 2 x hk (by omega)
  have := hx _ _ (this.trans rfl)
  rwa [← Nat.add_assoc] at this
end
section
open Go.RowKit
def RetB (v : Value) (w : World) (e : Ending) (w' : World) : Prop := e = .returned v ∧ Below w.heap.size w w'
/-- what the program's own variables hold -/
structure WordsW (w : World) : Prop where
 groups : ∀ k : Nat, k < 5 → ∃ s : ByteArray, w.cell? ⟨3, k, none⟩ = some (.string s) ∧ (s.toList == [114, 101, 113]) = false
 low : 3 < w.heap.size ∧ 3 < w.heap.size
end
section
open Go.RowKit
theorem kletter_any (c : UInt8) (w : World) : Calls Tryz.prog 104 #[.int .u8 (c.toNat : Int)] w fun e w' => e = .returned (.bool (letB c)) ∧ w = w' := by
 obtain ⟨x, hx⟩ : ∃ x, c.toNat = x := ⟨_, rfl⟩
 have e : letB c = (decide (97 ≤ x) && decide (x ≤ 122)) := by unfold letB; rw [hx]
 rw [e, hx]
 clear e hx
 by_cases h : 97 ≤ x
 ·by_cases h2 : x ≤ 122
  ·have E := Lib.hid (show (decide (97 ≤ x) && decide (x ≤ 122)) = true by simp [h, h2])
   go_enter Tryz.func104, Tryz.ntmps104
   go_wp2
   go_ret
   exact ⟨ret_bool (by first | rfl | (rw [E.out]; try (simp; try omega))), rfl⟩
  ·have E := Lib.hid (show (decide (97 ≤ x) && decide (x ≤ 122)) = false by simp [h2])
   go_enter Tryz.func104, Tryz.ntmps104
   go_wp2
   go_ret
   exact ⟨ret_bool (by first | rfl | (rw [E.out]; try (simp; try omega))), rfl⟩
 ·have E := Lib.hid (show (decide (97 ≤ x) && decide (x ≤ 122)) = false by simp [h])
  go_enter Tryz.func104, Tryz.ntmps104
  go_wp2
  go_ret
  exact ⟨ret_bool (by first | rfl | (rw [E.out]; try (simp; try omega))), rfl⟩
theorem kdigit_any (c : UInt8) (w : World) : Calls Tryz.prog 106 #[.int .u8 (c.toNat : Int)] w fun e w' => e = .returned (.bool (digB c)) ∧ w = w' := by
 obtain ⟨x, hx⟩ : ∃ x, c.toNat = x := ⟨_, rfl⟩
 have e : digB c = (decide (48 ≤ x) && decide (x ≤ 57)) := by unfold digB; rw [hx]
 rw [e, hx]
 clear e hx
 by_cases h : 48 ≤ x
 ·by_cases h2 : x ≤ 57
  ·have E := Lib.hid (show (decide (48 ≤ x) && decide (x ≤ 57)) = true by simp [h, h2])
   go_enter Tryz.func106, Tryz.ntmps106
   go_wp2
   go_ret
   exact ⟨ret_bool (by first | rfl | (rw [E.out]; try (simp; try omega))), rfl⟩
  ·have E := Lib.hid (show (decide (48 ≤ x) && decide (x ≤ 57)) = false by simp [h2])
   go_enter Tryz.func106, Tryz.ntmps106
   go_wp2
   go_ret
   exact ⟨ret_bool (by first | rfl | (rw [E.out]; try (simp; try omega))), rfl⟩
 ·have E := Lib.hid (show (decide (48 ≤ x) && decide (x ≤ 57)) = false by simp [h])
  go_enter Tryz.func106, Tryz.ntmps106
  go_wp2
  go_ret
  exact ⟨ret_bool (by first | rfl | (rw [E.out]; try (simp; try omega))), rfl⟩
set_option maxHeartbeats 400000 in
theorem kword1_any (c : UInt8) (w : World) : Calls Tryz.prog 134 #[.int .u8 (c.toNat : Int)] w fun e w' => e = .returned (.bool (wrdB c)) ∧ w = w' := by
 obtain ⟨a, ha⟩ : ∃ a, letB c = a := ⟨_, rfl⟩
 obtain ⟨b, hb⟩ : ∃ b, digB c = b := ⟨_, rfl⟩
 obtain ⟨d, hd⟩ : ∃ d, (c.toNat == 95) = d := ⟨_, rfl⟩
 have e : wrdB c = (a || b || d) := by unfold wrdB; rw [ha, hb, hd]
 have hd2 : ((c.toNat : Int) == 95) = d := by rw [← hd]; rw [Bool.eq_iff_iff, beq_iff_eq, beq_iff_eq]; omega
 have HA : Box (∀ w, Calls Tryz.prog 104 #[.int .u8 (c.toNat : Int)] w fun e w' => e = .returned (.bool a) ∧ w = w') := ⟨fun w => by rw [← ha]; exact kletter_any c w⟩
 have HB : Box (∀ w, Calls Tryz.prog 106 #[.int .u8 (c.toNat : Int)] w fun e w' => e = .returned (.bool b) ∧ w = w') := ⟨fun w => by rw [← hb]; exact kdigit_any c w⟩
 rw [e]
 clear e hd ha hb
 cases a <;> cases b
 all_goals
  go_enter Tryz.func134, Tryz.ntmps134
  go_wp2_with (first
   | (go_at_call 104; (with_reducible refine (HA.out _).mono ?_); rintro e w' ⟨rfl, rfl⟩)
   | (go_at_call 106; (with_reducible refine (HB.out _).mono ?_); rintro e w' ⟨rfl, rfl⟩))
  go_ret
  exact ⟨rfl, rfl⟩
/-- the source at q -/
abbrev Src (w : World) (q : Nat) (s : ByteArray) (i e : Int) : Prop := Blk w q 123 #[.string s, .int .i64 i, .int .i64 e]
def twN (f : UInt8 → Bool) (s : ByteArray) (k : Nat) : Nat := ((s.data.toList.drop k).takeWhile f).length
theorem data_size (s : ByteArray) : s.data.toList.length = s.size := by show s.data.toList.length = s.data.size; simp
theorem kdrop_at {s : ByteArray} {k : Nat} (h : k < s.size) : s.data.toList.drop k = s[k] :: s.data.toList.drop (k + 1) := by
 rw [List.drop_eq_getElem_cons (by rw [data_size]; exact h)]
 rfl
theorem twN_step {f : UInt8 → Bool} {s : ByteArray} {k : Nat} (h : k < s.size) (hf : f s[k] = true) : twN f s k = twN f s (k + 1) + 1 := by
 unfold twN; rw [kdrop_at h, List.takeWhile_cons, hf]; simp
theorem twN_stop {f : UInt8 → Bool} {s : ByteArray} {k : Nat} (h : k < s.size) (hf : f s[k] = false) : twN f s k = 0 := by
 unfold twN; rw [kdrop_at h, List.takeWhile_cons, hf]; simp
theorem twN_end {f : UInt8 → Bool} {s : ByteArray} {k : Nat} (h : s.size ≤ k) : twN f s k = 0 := by
 unfold twN; rw [List.drop_eq_nil_of_le (by rw [data_size]; exact h)]; simp
theorem twN_le {f : UInt8 → Bool} {s : ByteArray} {k : Nat} (h : k ≤ s.size) : k + twN f s k ≤ s.size := by
 have h1 := List.takeWhile_prefix f (l := s.data.toList.drop k) |>.length_le
 have h2 : (s.data.toList.drop k).length = s.size - k := by rw [List.length_drop, data_size]
 unfold twN; omega
set_option maxHeartbeats 400000 in
theorem krun_word (q k0 : Nat) (s : ByteArray) (i er : Int) (w : World) (h : Src w q s i er) (hk : k0 ≤ s.size) (hs : s.size ≤ 4000) :
  Calls Tryz.prog 133 #[.pointer (some ⟨q, 0, none⟩), .int .i64 k0, .func (.func 134) #[] #[]] w fun e w' => e = .returned (.int .i64 ((k0 + twN wrdB s k0 : Nat) : Int)) ∧ w = w' := by
 obtain ⟨c0, c1, c2⟩ := h.c3
 obtain ⟨en, HE⟩ : ∃ en, Box (k0 + twN wrdB s k0 = en) := ⟨_, ⟨rfl⟩⟩
 rw [HE.out]
 clear h
 go_enter Tryz.func133, Tryz.ntmps133
 go_wp2_with fail
 go_loop [1] (fun v => ∃ k : Nat, v = .int .i64 k ∧ k ≤ s.size ∧ Hid (k + twN wrdB s k = en)) (fun v => s.size - (intOf v).toNat)
 case atStart => exact ⟨k0, rfl, hk, HE.out⟩
 case round =>
  obtain ⟨k, rfl, hk2, HK⟩ := hrel
  by_cases hlt : k < s.size
  ·have hlt2 : (k : Int) < (s.size : Int) := by omega
   obtain ⟨b, hb⟩ : ∃ b, wrdB s[k] = b := ⟨_, rfl⟩
   have HC : Box (∀ w, Calls Tryz.prog 134 #[.int .u8 (s[k].toNat : Int)] w fun e w' => e = .returned (.bool b) ∧ w = w') := ⟨fun w => by rw [← hb]; exact kword1_any _ w⟩
   cases b
   ·have HN : Hid (k = en) := by have := HK.out; rw [twN_stop hlt hb] at this; exact this
    clear hb
    go_wp2_with (go_at_call 134; (with_reducible refine (HC.out _).mono ?_); rintro e w' ⟨rfl, rfl⟩)
    go_ret
    exact ⟨ret_int (by rw [HN.out]), rfl⟩
   ·have HN : Hid (k + 1 + twN wrdB s (k + 1) = en) := by have h5 := HK.out; rw [twN_step hlt hb] at h5; show k + 1 + twN wrdB s (k + 1) = en; omega
    clear hb
    go_wp2_with (go_at_call 134; (with_reducible refine (HC.out _).mono ?_); rintro e w' ⟨rfl, rfl⟩)
    go_round
    case rel => exact ⟨k + 1, by go_num, by omega, HN.out⟩
    case measure => simp [intOf]; omega
  ·have hlt2 : ¬ (k : Int) < (s.size : Int) := by omega
   have HN : Hid (k = en) := by have := HK.out; rw [twN_end (by omega)] at this; exact this
   go_wp2_with fail
   go_ret
   exact ⟨ret_int (by rw [HN.out]), rfl⟩
set_option maxHeartbeats 400000 in
theorem krun_digit (q k0 : Nat) (s : ByteArray) (i er : Int) (w : World) (h : Src w q s i er) (hk : k0 ≤ s.size) (hs : s.size ≤ 4000) :
  Calls Tryz.prog 133 #[.pointer (some ⟨q, 0, none⟩), .int .i64 k0, .func (.func 106) #[] #[]] w fun e w' => e = .returned (.int .i64 ((k0 + twN digB s k0 : Nat) : Int)) ∧ w = w' := by
 obtain ⟨c0, c1, c2⟩ := h.c3
 obtain ⟨en, HE⟩ : ∃ en, Box (k0 + twN digB s k0 = en) := ⟨_, ⟨rfl⟩⟩
 rw [HE.out]
 clear h
 go_enter Tryz.func133, Tryz.ntmps133
 go_wp2_with fail
 go_loop [1] (fun v => ∃ k : Nat, v = .int .i64 k ∧ k ≤ s.size ∧ Hid (k + twN digB s k = en)) (fun v => s.size - (intOf v).toNat)
 case atStart => exact ⟨k0, rfl, hk, HE.out⟩
 case round =>
  obtain ⟨k, rfl, hk2, HK⟩ := hrel
  by_cases hlt : k < s.size
  ·have hlt2 : (k : Int) < (s.size : Int) := by omega
   obtain ⟨b, hb⟩ : ∃ b, digB s[k] = b := ⟨_, rfl⟩
   have HC : Box (∀ w, Calls Tryz.prog 106 #[.int .u8 (s[k].toNat : Int)] w fun e w' => e = .returned (.bool b) ∧ w = w') := ⟨fun w => by rw [← hb]; exact kdigit_any _ w⟩
   cases b
   ·have HN : Hid (k = en) := by have := HK.out; rw [twN_stop hlt hb] at this; exact this
    clear hb
    go_wp2_with (go_at_call 106; (with_reducible refine (HC.out _).mono ?_); rintro e w' ⟨rfl, rfl⟩)
    go_ret
    exact ⟨ret_int (by rw [HN.out]), rfl⟩
   ·have HN : Hid (k + 1 + twN digB s (k + 1) = en) := by have h5 := HK.out; rw [twN_step hlt hb] at h5; show k + 1 + twN digB s (k + 1) = en; omega
    clear hb
    go_wp2_with (go_at_call 106; (with_reducible refine (HC.out _).mono ?_); rintro e w' ⟨rfl, rfl⟩)
    go_round
    case rel => exact ⟨k + 1, by go_num, by omega, HN.out⟩
    case measure => simp [intOf]; omega
  ·have hlt2 : ¬ (k : Int) < (s.size : Int) := by omega
   have HN : Hid (k = en) := by have := HK.out; rw [twN_end (by omega)] at this; exact this
   go_wp2_with fail
   go_ret
   exact ⟨ret_int (by rw [HN.out]), rfl⟩
end
section
open Go.RowKit FracM
theorem size_any (n : Int) (w : World) (h1 : -9223372036854775808 ≤ n) (h2 : n ≤ 9223372036854775807) :
  Calls Tryz.prog 156 #[.int .i64 n] w fun e w' => e = .returned (.int .u64 (n.natAbs : Int)) ∧ w = w' := by
 by_cases h : n < 0
 ·go_enter Tryz.func156, Tryz.ntmps156
  go_wp2
  go_ret
  exact ⟨ret_int (by first | omega | (simp [wrap64, IntKind.wrap, IntKind.bits, IntKind.signed]; omega)), rfl⟩
 ·go_enter Tryz.func156, Tryz.ntmps156
  go_wp2
  go_ret
  exact ⟨ret_int (by first | omega | (simp [wrap64, IntKind.wrap, IntKind.bits, IntKind.signed]; omega)), rfl⟩
set_option maxHeartbeats 400000 in
theorem common_any (a b : Nat) (w : World) (h1 : a ≤ 9223372036854775807) (h2 : b ≤ 9223372036854775807) :
  Calls Tryz.prog 157 #[.int .u64 a, .int .u64 b] w fun e w' => e = .returned (.int .u64 (Nat.gcd a b : Nat)) ∧ w = w' := by
 go_enter Tryz.func157, Tryz.ntmps157
 go_wp2
 go_loop [0, 1] (fun u v => GcdRel .u64 a b w u v w) (fun _ v => (intOf v).toNat)
 case atStart => exact ⟨a, b, rfl, rfl, h1, h2, rfl, 0, rfl⟩
 case round =>
  obtain ⟨x, y, rfl, rfl, hx, hy, hg, n, hn⟩ := hrel
  clear hn
  have HG := Lib.hid hg; clear hg
  by_cases hz : y = 0
  ·subst hz
   have HG2 : Hid (x = Nat.gcd a b) := by show x = Nat.gcd a b; simpa using HG.out
   clear HG
   go_wp2
   go_ret
   exact ⟨ret_int (by rw [← HG2.out]), rfl⟩
  ·have hz' : ((y : Int) != 0) = true := by simp; omega
   have hz2 : ((y : Int) == 0) = false := by simp; omega
   have hy1 : 1 ≤ (y : Int) := by omega
   have hlt : x % y < y := Nat.mod_lt _ (by omega)
   have hle : x % y ≤ 9223372036854775807 := by omega
   go_wp2
   go_round
   case rel => exact ⟨y, x % y, rfl, by go_num, hy, hle, gcd_step HG.out, 0, rfl⟩
   case measure => simp [intOf]; omega
def RetF (r : Int × Int × Int) (w : World) (e : Ending) (w' : World) : Prop :=
 e = .returned (.tuple #[.agg #[.int .i64 r.1, .int .i64 r.2.1], .int .i64 r.2.2]) ∧ Below w.heap.size w w'
theorem retF {r : Int × Int × Int} {a b c : Int} {w w' : World} {e : Ending} (h : r = (a, b, c)) (he : e = .returned (.tuple #[.agg #[.int .i64 a, .int .i64 b], .int .i64 c])) (hb : Below w.heap.size w w') : RetF r w e w' := by
 subst h; exact ⟨he, hb⟩
theorem new_zero (num den : Int) (h : den = 0) : newF num den = (0, 0, 6) := by unfold newF; rw [if_pos h]
theorem new_min (num den : Int) (h0 : ¬ den = 0) (h : num = -9223372036854775808 ∨ den = -9223372036854775808) : newF num den = (0, 0, 5) := by unfold newF; rw [if_neg h0, if_pos h]
theorem new_low (num den : Int) (h0 : ¬ den = 0) (h1 : ¬ num = -9223372036854775808) (h2 : ¬ den = -9223372036854775808) {p : Int} {d : Nat} (hp : p = if den < 0 then -num else num) (hd : d = den.natAbs) : newF num den = low p d := by
 unfold newF; rw [if_neg h0, if_neg (by omega), ← hp, ← hd]
theorem tdiv_sign (p : Int) (g : Nat) : p.tdiv g = p.sign * ((p.natAbs / g : Nat) : Int) := by
 rcases Int.lt_trichotomy p 0 with h | h | h
 ·obtain ⟨k, rfl⟩ : ∃ k : Nat, p = -(k : Int) := ⟨p.natAbs, by omega⟩
  rw [Int.neg_tdiv, Int.sign_eq_neg_one_of_neg h, Int.natAbs_neg, Int.natAbs_natCast, ← Int.ofNat_tdiv]; omega
 ·subst h; simp
 ·obtain ⟨k, rfl⟩ : ∃ k : Nat, p = (k : Int) := ⟨p.natAbs, by omega⟩
  rw [Int.sign_eq_one_of_pos h, Int.natAbs_natCast, ← Int.ofNat_tdiv]; omega
/-- the quotients by the greatest common divisor -/
theorem low_form {p : Int} {d g : Nat} (hg : g = Nat.gcd p.natAbs d) : low p d = if (p.tdiv g).natAbs ≤ M ∧ d / g ≤ M then (p.tdiv g, ((d / g : Nat) : Int), 0) else (0, 0, 5) := by
 have hn : (p.tdiv g).natAbs = p.natAbs / g := by rw [Int.natAbs_tdiv]; rfl
 unfold low
 rw [← hg, ← tdiv_sign, ← hn]
theorem rnew_val (num den : Int) (h0 : ¬ den = 0) (h1 : ¬ num = -9223372036854775808) (h2 : ¬ den = -9223372036854775808) {g N D : Nat} (hg : g = Nat.gcd num.natAbs den.natAbs) (hN : N = num.natAbs / g) (hD : D = den.natAbs / g) :
  newF num den = if N ≤ 4611686018427387904 ∧ D ≤ 4611686018427387904 then ((if (num < 0) ≠ (den < 0) then -(N : Int) else N), (D : Int), 0) else (0, 0, 5) := by
 have hp : (if den < 0 then -num else num).natAbs = num.natAbs := by split <;> omega
 rw [new_low num den h0 h1 h2 rfl rfl, low_form (g := g) (by rw [hp]; exact hg), tdiv_sign]
 rw [hp, ← hN, ← hD]
 have hna : ((if den < 0 then -num else num).sign * (N : Int)).natAbs = N := by
  refine natAbs_sign_mul (fun hz => ?_)
  have : num = 0 := by split at hz <;> omega
  rw [hN, this]; simp
 rw [hna]
 have hv : (if den < 0 then -num else num).sign * (N : Int) = if (num < 0) ≠ (den < 0) then -(N : Int) else N := by
  rcases Int.lt_trichotomy num 0 with hn | hn | hn
  ·by_cases hd : den < 0
   ·rw [if_pos hd, Int.sign_eq_one_of_pos (by omega), if_neg (by simp [hn, hd])]; omega
   ·rw [if_neg hd, Int.sign_eq_neg_one_of_neg hn, if_pos (by simp [hn, hd])]; omega
  ·have hN0 : N = 0 := by rw [hN, hn]; simp
   rw [hN0]; simp
  ·by_cases hd : den < 0
   ·rw [if_pos hd, Int.sign_eq_neg_one_of_neg (by omega), if_pos (by simp [hd]; omega)]; omega
   ·rw [if_neg hd, Int.sign_eq_one_of_pos hn, if_neg (by simp [hd]; omega)]; omega
 rw [hv]
 rfl
set_option maxHeartbeats 1000000 in
theorem rnew_any (num den : Int) (w : World) (l1 : -9223372036854775808 ≤ num) (u1 : num ≤ 9223372036854775807) (l2 : -9223372036854775808 ≤ den) (u2 : den ≤ 9223372036854775807) :
  Calls Tryz.prog 142 #[.int .i64 num, .int .i64 den] w (RetF (newF num den) w) := by
 by_cases h0 : den = 0
 ·have E := Lib.hid (new_zero num den h0)
  have h0' : (den == 0) = true := by simp [h0]
  clear h0
  go_enter Tryz.func142, Tryz.ntmps142
  go_wp2
  refine bodyPost_ret (v := .tuple #[.agg #[.int .i64 0, .int .i64 0], .int .i64 6]) (by simp [results, Tryz.results142, go_sem]) rfl (retF E.out rfl (bel1 _ _))
 have h0' : (den == 0) = false := by simpa using h0
 by_cases h1 : num = -9223372036854775808
 ·have E := Lib.hid (new_min num den h0 (.inl h1))
  have h1' : 9223372036854775807 < num.natAbs := by omega
  clear h1
  go_enter Tryz.func142, Tryz.ntmps142
  go_wp2_with (go_at_call 156; refine (size_any _ _ (by omega) (by omega)).mono ?_; rintro e w' ⟨rfl, rfl⟩)
  refine bodyPost_ret (v := .tuple #[.agg #[.int .i64 0, .int .i64 0], .int .i64 5]) (by simp [results, Tryz.results142, go_sem]) rfl (retF E.out rfl (bel1 _ _))
 by_cases h2 : den = -9223372036854775808
 ·have E := Lib.hid (new_min num den h0 (.inr h2))
  have h1' : num.natAbs ≤ 9223372036854775807 := by omega
  have h2' : 9223372036854775807 < den.natAbs := by omega
  clear h2
  go_enter Tryz.func142, Tryz.ntmps142
  go_wp2_with (go_at_call 156; refine (size_any _ _ (by omega) (by omega)).mono ?_; rintro e w' ⟨rfl, rfl⟩)
  refine bodyPost_ret (v := .tuple #[.agg #[.int .i64 0, .int .i64 0], .int .i64 5]) (by simp [results, Tryz.results142, go_sem]) rfl (retF E.out rfl (bel1 _ _))
 obtain ⟨g, hg⟩ : ∃ g, g = Nat.gcd num.natAbs den.natAbs := ⟨_, rfl⟩
 obtain ⟨N, hN⟩ : ∃ N, N = num.natAbs / g := ⟨_, rfl⟩
 obtain ⟨D, hD⟩ : ∃ D, D = den.natAbs / g := ⟨_, rfl⟩
 have g1 : 1 ≤ g := by rw [hg]; exact Nat.gcd_pos_of_pos_right _ (by omega)
 have g2 : g ≤ den.natAbs := by rw [hg]; exact Nat.gcd_le_right _ (by omega)
 have e := rnew_val num den h0 h1 h2 hg hN hD
 have q1 : num.natAbs ≤ 9223372036854775807 := by omega
 have q2 : den.natAbs ≤ 9223372036854775807 := by omega
 have n1 : N ≤ 9223372036854775807 := by rw [hN]; exact Nat.le_trans (Nat.div_le_self _ _) q1
 have n2 : D ≤ 9223372036854775807 := by rw [hD]; exact Nat.le_trans (Nat.div_le_self _ _) q2
 have HG : Hid (g = Nat.gcd num.natAbs den.natAbs) := hg
 have HN : Hid ((num.natAbs : Int) / (g : Int) = N) := by rw [hN]; exact (Int.natCast_ediv _ _).symm
 have HD : Hid ((den.natAbs : Int) / (g : Int) = D) := by rw [hD]; exact (Int.natCast_ediv _ _).symm
 have E := Lib.hid e
 clear hg hN hD e h0 h1 h2
 by_cases t1 : 4611686018427387904 < N
 ·have EE : Hid (newF num den = (0, 0, 5)) := by show newF num den = _; rw [E.out, if_neg (by omega)]
  go_enter Tryz.func142, Tryz.ntmps142
  go_wp2_with (first
   | (go_at_call 156; refine (size_any _ _ (by omega) (by omega)).mono ?_; rintro e w' ⟨rfl, rfl⟩)
   | (go_at_call 157; refine (common_any _ _ _ (by omega) (by omega)).mono ?_; rintro e w' ⟨rfl, rfl⟩; rw [← HG.out]; have y1 := HN.out; have y2 := HD.out))
  refine bodyPost_ret (v := .tuple #[.agg #[.int .i64 0, .int .i64 0], .int .i64 5]) (by simp [results, Tryz.results142, go_sem]) rfl (retF EE.out rfl (bel1 _ _))
 by_cases t2 : 4611686018427387904 < D
 ·have EE : Hid (newF num den = (0, 0, 5)) := by show newF num den = _; rw [E.out, if_neg (by omega)]
  go_enter Tryz.func142, Tryz.ntmps142
  go_wp2_with (first
   | (go_at_call 156; refine (size_any _ _ (by omega) (by omega)).mono ?_; rintro e w' ⟨rfl, rfl⟩)
   | (go_at_call 157; refine (common_any _ _ _ (by omega) (by omega)).mono ?_; rintro e w' ⟨rfl, rfl⟩; rw [← HG.out]; have y1 := HN.out; have y2 := HD.out))
  refine bodyPost_ret (v := .tuple #[.agg #[.int .i64 0, .int .i64 0], .int .i64 5]) (by simp [results, Tryz.results142, go_sem]) rfl (retF EE.out rfl (bel1 _ _))
 by_cases a1 : num < 0 <;> by_cases a2 : den < 0
 ·have EE : Hid (newF num den = ((N : Int), (D : Int), 0)) := by show newF num den = _; rw [E.out, if_pos (by omega), if_neg (by simp [a1, a2])]
  have c1 : decide (num < 0) = true := by simpa using a1
  have c2 : decide (den < 0) = true := by simpa using a2
  go_enter Tryz.func142, Tryz.ntmps142
  go_wp2_with (first
   | (go_at_call 156; refine (size_any _ _ (by omega) (by omega)).mono ?_; rintro e w' ⟨rfl, rfl⟩)
   | (go_at_call 157; refine (common_any _ _ _ (by omega) (by omega)).mono ?_; rintro e w' ⟨rfl, rfl⟩; rw [← HG.out]; have y1 := HN.out; have y2 := HD.out))
  exact bodyPost_ret (v := .tuple #[.agg #[.int .i64 (N : Int), .int .i64 D], .int .i64 0]) (by simp [results, Tryz.results142, go_sem]) rfl (retF EE.out rfl (bel1 _ _))
 ·have EE : Hid (newF num den = ((-(N : Int)), (D : Int), 0)) := by show newF num den = _; rw [E.out, if_pos (by omega), if_pos (by simp [a1, a2])]
  have c1 : decide (num < 0) = true := by simpa using a1
  have c2 : decide (den < 0) = false := by simpa using a2
  go_enter Tryz.func142, Tryz.ntmps142
  go_wp2_with (first
   | (go_at_call 156; refine (size_any _ _ (by omega) (by omega)).mono ?_; rintro e w' ⟨rfl, rfl⟩)
   | (go_at_call 157; refine (common_any _ _ _ (by omega) (by omega)).mono ?_; rintro e w' ⟨rfl, rfl⟩; rw [← HG.out]; have y1 := HN.out; have y2 := HD.out))
  exact bodyPost_ret (v := .tuple #[.agg #[.int .i64 (-(N : Int)), .int .i64 D], .int .i64 0]) (by simp [results, Tryz.results142, go_sem]) rfl (retF EE.out rfl (bel1 _ _))
 ·have EE : Hid (newF num den = ((-(N : Int)), (D : Int), 0)) := by show newF num den = _; rw [E.out, if_pos (by omega), if_pos (by simp [a1, a2])]
  have c1 : decide (num < 0) = false := by simpa using a1
  have c2 : decide (den < 0) = true := by simpa using a2
  go_enter Tryz.func142, Tryz.ntmps142
  go_wp2_with (first
   | (go_at_call 156; refine (size_any _ _ (by omega) (by omega)).mono ?_; rintro e w' ⟨rfl, rfl⟩)
   | (go_at_call 157; refine (common_any _ _ _ (by omega) (by omega)).mono ?_; rintro e w' ⟨rfl, rfl⟩; rw [← HG.out]; have y1 := HN.out; have y2 := HD.out))
  exact bodyPost_ret (v := .tuple #[.agg #[.int .i64 (-(N : Int)), .int .i64 D], .int .i64 0]) (by simp [results, Tryz.results142, go_sem]) rfl (retF EE.out rfl (bel1 _ _))
 ·have EE : Hid (newF num den = ((N : Int), (D : Int), 0)) := by show newF num den = _; rw [E.out, if_pos (by omega), if_neg (by simp [a1, a2])]
  have c1 : decide (num < 0) = false := by simpa using a1
  have c2 : decide (den < 0) = false := by simpa using a2
  go_enter Tryz.func142, Tryz.ntmps142
  go_wp2_with (first
   | (go_at_call 156; refine (size_any _ _ (by omega) (by omega)).mono ?_; rintro e w' ⟨rfl, rfl⟩)
   | (go_at_call 157; refine (common_any _ _ _ (by omega) (by omega)).mono ?_; rintro e w' ⟨rfl, rfl⟩; rw [← HG.out]; have y1 := HN.out; have y2 := HD.out))
  exact bodyPost_ret (v := .tuple #[.agg #[.int .i64 (N : Int), .int .i64 D], .int .i64 0]) (by simp [results, Tryz.results142, go_sem]) rfl (retF EE.out rfl (bel1 _ _))
theorem rvalid_val {n d : Int} (hd : 1 ≤ d) : validB n d = ((newF n d).2.2 == 0 && ((n == (newF n d).1) && (d == (newF n d).2.1))) := by
 rw [Bool.eq_iff_iff, newF_self]
 obtain ⟨a, b, c⟩ := newF n d
 simp
 constructor
 ·rintro ⟨rfl, rfl, rfl⟩; simp
 ·rintro ⟨rfl, rfl, rfl⟩; simp
set_option maxHeartbeats 400000 in
theorem rvalid_any (n d : Int) (w : World) (l1 : -9223372036854775808 ≤ n) (u1 : n ≤ 9223372036854775807) (l2 : -9223372036854775808 ≤ d) (u2 : d ≤ 9223372036854775807) :
  Calls Tryz.prog 113 #[.agg #[.int .i64 n, .int .i64 d]] w fun e w' => e = .returned (.bool (validB n d)) ∧ Below w.heap.size w w' := by
 by_cases h1 : d < 1
 ·have E := Lib.hid (valid_no (n := n) (d := d) (.inl h1))
  go_enter Tryz.func113, Tryz.ntmps113
  go_wp2
  go_ret
  exact ⟨ret_bool (by rw [E.out]), bel1 _ _⟩
 have E := Lib.hid (rvalid_val (n := n) (d := d) (by omega))
 generalize hr : newF n d = r at E
 obtain ⟨a, b, c⟩ := r
 have HR := Lib.hid hr; clear hr
 by_cases hc : (c == 0) = true
 all_goals
  try (have hc' : (c == 0) = false := by simpa using hc)
  go_enter Tryz.func113, Tryz.ntmps113
  go_wp2_with (go_at_call 142; refine (rnew_any _ _ _ (by omega) (by omega) (by omega) (by omega)).mono ?_; rintro e w1 ⟨rfl, hb1⟩; rw [HR.out]; have HB : Hid (Below w.heap.size w w1) := bthen (bel1 _ _) hb1 (Nat.le_refl _); obtain ⟨hc1, hf1⟩ := bcell hb1; have hz1 := sz1 hb1; clear hb1)
  all_goals
   go_ret
   exact ⟨ret_bool (by rw [E.out]; simp_all), HB.out.alloc (by omega) _⟩
end
end Go.Proofs.YtkdojgkiclndfaaGreatDoor
