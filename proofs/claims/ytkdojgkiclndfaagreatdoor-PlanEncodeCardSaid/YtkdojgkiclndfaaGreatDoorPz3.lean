/- Contracts, packed: Uz Ka Ya Kb Qf. -/
import Derived.Test.YtkdojgkiclndfaaGreatDoorPz1
import Derived.Laws.Bits64
import Derived.Laws.BitsLemmas
import Derived.Lib.Bytealg
import Derived.Deep.RegionHeld3
import Derived.Deep.DeepCutAuto
import Derived.RangeFuncNested
import Derived.RangeFuncBound
import Derived.RangeFuncCalls
import Derived.RangeFuncLeaves
import Derived.RangeFuncFrom
import Derived.RangeFuncKeeps
import Derived.Shelf.Abstract
import Derived.Shelf.RegionOpen
import Derived.WalkKit
import Derived.OwnWalkIn
import Derived.TacticsInMore
import Derived.LoopNIn
import Derived.LoopIn
import Derived.RegionTactic
import Derived.ChangeAlike
set_option linter.unusedVariables false
set_option linter.unusedSimpArgs false
namespace Go.Proofs.YtkdojgkiclndfaaGreatDoor
section
open Go.RowKit
def zig (n : Int) : Nat := if 0 ≤ n then (2 * n).toNat else (-2 * n - 1).toNat
theorem zig_lt {n : Int} (h1 : -9223372036854775808 ≤ n) (h2 : n ≤ 9223372036854775807) : zig n < 18446744073709551616 := by
 unfold zig; split <;> omega
theorem xor_ones (a : Nat) (ha : a < 18446744073709551616) : a ^^^ 18446744073709551615 = 18446744073709551615 - a := by
 have h := congrArg BitVec.toNat (BitVec.xor_allOnes (x := BitVec.ofNat 64 a))
 rw [BitVec.toNat_xor, BitVec.toNat_not, BitVec.toNat_ofNat, Nat.mod_eq_of_lt (by simpa using ha)] at h
 simpa using h
/-- the zigzag form, as the program computes it -/
theorem zig_eq {n : Int} (h1 : -9223372036854775808 ≤ n) (h2 : n ≤ 9223372036854775807) : bits .xor .u64 (n * 2 % 18446744073709551616) (n / 9223372036854775808 % 18446744073709551616) = (zig n : Nat) := by
 by_cases h : 0 ≤ n
 ·have e1 : n * 2 % 18446744073709551616 = ((2 * n).toNat : Nat) := by omega
  have e2 : n / 9223372036854775808 % 18446744073709551616 = ((0 : Nat) : Int) := by omega
  rw [e1, e2, bits_xor_u64_nat _ _ (by omega) (by omega), Nat.xor_zero]
  unfold zig; rw [if_pos h]
 ·have e1 : n * 2 % 18446744073709551616 = ((18446744073709551616 + 2 * n).toNat : Nat) := by omega
  have e2 : n / 9223372036854775808 % 18446744073709551616 = ((18446744073709551615 : Nat) : Int) := by omega
  rw [e1, e2, bits_xor_u64_nat _ _ (by omega) (by omega), xor_ones _ (by omega)]
  unfold zig; rw [if_neg h]; omega
def uvN (n : Nat) : List Nat := if n < 128 then [n] else (n % 128 + 128) :: uvN (n / 128)
termination_by n
theorem uvN_small {n : Nat} (h : n < 128) : uvN n = [n] := by rw [uvN, if_pos h]
theorem uvN_big {n : Nat} (h : ¬ n < 128) : uvN n = (n % 128 + 128) :: uvN (n / 128) := by rw [uvN, if_neg h]
theorem uvN_ne (n : Nat) : uvN n ≠ [] := by
 by_cases h : n < 128
 ·rw [uvN_small h]; simp
 ·rw [uvN_big h]; simp
theorem uvN_len (k : Nat) : ∀ n, n < 128 ^ (k + 1) → (uvN n).length ≤ k + 1 := by
 induction k with
 | zero => intro n h; rw [uvN_small (by simpa using h)]; simp
 | succ k ih =>
  intro n h
  by_cases h1 : n < 128
  ·rw [uvN_small h1]; simp
  ·rw [uvN_big h1]
   have := ih (n / 128) (by rw [Nat.pow_succ] at h; exact Nat.div_lt_of_lt_mul (by rw [Nat.mul_comm]; exact h))
   simp; omega
theorem or128 (x : Nat) (h : x < 256) : bits .or .u8 (x : Int) 128 = ((x % 128 + 128 : Nat) : Int) := by
 have : ∀ y : Fin 256, bits .or .u8 ((y.1 : Nat) : Int) 128 = ((y.1 % 128 + 128 : Nat) : Int) := by decide +kernel
 exact this ⟨x, h⟩
end
section
open Go.RowKit
def bsL (l : List UInt8) : ByteArray := ⟨l.toArray⟩
/-- a token: its kind, text, number and offset -/
structure Tok where
 kind : Int
 text : List UInt8
 n : Int
 off : Nat
def letB (c : UInt8) : Bool := decide (97 ≤ c.toNat) && decide (c.toNat ≤ 122)
def digB (c : UInt8) : Bool := decide (48 ≤ c.toNat) && decide (c.toNat ≤ 57)
def wrdB (c : UInt8) : Bool := letB c || digB c || c.toNat == 95
def spcB (c : UInt8) : Bool := c.toNat == 9 || c.toNat == 10 || c.toNat == 13 || c.toNat == 32
def txtB (c : UInt8) : Bool := decide (33 ≤ c.toNat) && decide (c.toNat ≤ 126) && c.toNat != 92 && c.toNat != 44 && c.toNat != 123 && c.toNat != 125
/-- the number that a list of digits adds to another one, up to the bound -/
def numV : Int → List UInt8 → Int
 | n, [] => n
 | n, c :: r => if n ≤ 1073741824 then numV (n * 10 + ((c.toNat : Int) - 48)) r else n
def symN : List UInt8 → Nat
 | [] => 0
 | c :: r =>
  if c.toNat = 43 ∨ c.toNat = 45 ∨ c.toNat = 42 ∨ c.toNat = 47 ∨ c.toNat = 40 ∨ c.toNat = 41 ∨ c.toNat = 123 ∨ c.toNat = 125 ∨ c.toNat = 44 ∨ c.toNat = 46 ∨ c.toNat = 64 ∨ c.toNat = 61 then 1
  else if (c.toNat = 33 ∨ c.toNat = 94) ∧ (r.head?.map UInt8.toNat) = some 61 then 2 else 0
/-- the error, the token at the head of a list (the offset is i), and how many bytes it takes -/
def tokW (i : Nat) (r : List UInt8) : Int × Tok × Nat :=
 (if 16 < (r.takeWhile wrdB).length then 4 else 0, ⟨0, r.takeWhile wrdB, 0, i⟩, (r.takeWhile wrdB).length)
def tokN (i : Nat) (r : List UInt8) : Int × Tok × Nat :=
 (if 1073741824 < numV 0 (r.takeWhile digB) then 5 else 0, ⟨1, r.takeWhile digB, numV 0 (r.takeWhile digB), i⟩, (r.takeWhile digB).length)
def tokT (i : Nat) (r : List UInt8) : Int × Tok × Nat :=
 if Lib.indexByte r.tail 34 < 0 then (2, ⟨0, [], 0, 0⟩, 2)
 else if (r.tail.take (Lib.indexByte r.tail 34).toNat).all txtB then
  (if 16 < Lib.indexByte r.tail 34 then 4 else 0, ⟨2, r.tail.take (Lib.indexByte r.tail 34).toNat, 0, i⟩, (Lib.indexByte r.tail 34).toNat + 2)
 else (2, ⟨0, [], 0, 0⟩, 2)
def tokS (i : Nat) (r : List UInt8) : Int × Tok × Nat :=
 (if symN r = 0 then 2 else 0, ⟨3, r.take (symN r), 0, i⟩, symN r)
def tokM (i : Nat) (c : UInt8) (r : List UInt8) : Int × Tok × Nat :=
 if letB c then tokW i (c :: r) else if digB c then tokN i (c :: r) else if c.toNat = 34 then tokT i (c :: r) else tokS i (c :: r)
/-- the tokens of a list, whose first byte has the offset i; the error; the offset of the end or of the error -/
def lexM : Nat → Nat → List UInt8 → List Tok × Int × Nat
 | 0, i, _ => ([], 0, i)
 | _ + 1, i, [] => ([], 0, i)
 | n + 1, i, c :: r =>
  if spcB c then lexM n (i + 1) r
  else if (tokM i c r).1 = 0 then ((tokM i c r).2.1 :: (lexM n (i + (tokM i c r).2.2) ((c :: r).drop (tokM i c r).2.2)).1, (lexM n (i + (tokM i c r).2.2) ((c :: r).drop (tokM i c r).2.2)).2)
  else ([], (tokM i c r).1, i)
theorem digB_iff (c : UInt8) : digB c = true ↔ 48 ≤ c.toNat ∧ c.toNat ≤ 57 := by unfold digB; simp
theorem tw_pos {f : UInt8 → Bool} {c : UInt8} {r : List UInt8} (h : f c = true) : 0 < ((c :: r).takeWhile f).length := by rw [List.takeWhile_cons, h]; simp
theorem tok_pos {i : Nat} {c : UInt8} {r : List UInt8} (h : (tokM i c r).1 = 0) : 1 ≤ (tokM i c r).2.2 := by
 unfold tokM at *
 by_cases h1 : letB c
 ·rw [if_pos h1]; exact tw_pos (by unfold wrdB; rw [h1]; rfl)
 rw [if_neg h1] at h ⊢
 by_cases h2 : digB c
 ·rw [if_pos h2]; exact tw_pos h2
 rw [if_neg h2] at h ⊢
 by_cases h3 : c.toNat = 34
 ·rw [if_pos h3] at h ⊢
  unfold tokT at *
  split
  ·simp
  ·split <;> simp
 rw [if_neg h3] at h ⊢
 unfold tokS at *
 simp only at h ⊢
 by_cases h4 : symN (c :: r) = 0
 ·rw [if_pos h4] at h; exact absurd h (by decide)
 ·omega
theorem ixb_lt : ∀ (l : List UInt8) (c : UInt8), -1 ≤ Lib.indexByte l c ∧ Lib.indexByte l c < l.length
 | [], c => by unfold Lib.indexByte; exact ⟨by omega, by simp⟩
 | b :: l, c => by
  obtain ⟨h1, h2⟩ := ixb_lt l c
  unfold Lib.indexByte
  split
  ·exact ⟨by omega, by simp⟩
  ·split
   ·exact ⟨by omega, by simp; omega⟩
   ·exact ⟨by omega, by simp; omega⟩
theorem symN_le (l : List UInt8) : symN l ≤ l.length := by
 cases l with
 | nil => simp [symN]
 | cons c r =>
  rw [symN]
  split
  ·simp
  ·split
   ·rename_i h
    cases r with
    | nil => simp at h
    | cons d r => simp
   ·simp
theorem tokW_f (i : Nat) (l : List UInt8) : (tokW i l).2.1.text.length = (tokW i l).2.2 ∧ (tokW i l).2.2 ≤ l.length := ⟨rfl, (List.takeWhile_prefix _).length_le⟩
theorem tokN_f (i : Nat) (l : List UInt8) : (tokN i l).2.1.text.length = (tokN i l).2.2 ∧ (tokN i l).2.2 ≤ l.length := ⟨rfl, (List.takeWhile_prefix _).length_le⟩
theorem tokS_f (i : Nat) (l : List UInt8) : (tokS i l).2.1.text.length = (tokS i l).2.2 ∧ (tokS i l).2.2 ≤ l.length := by
 have := symN_le l
 unfold tokS
 exact ⟨by simp only [List.length_take]; omega, this⟩
theorem tokT_f {i : Nat} {l : List UInt8} (h : (tokT i l).1 = 0) (hl : l ≠ []) : 2 + (tokT i l).2.1.text.length = (tokT i l).2.2 ∧ (tokT i l).2.2 ≤ l.length := by
 have hx := ixb_lt l.tail 34
 have hp : 0 < l.length := List.length_pos_iff.2 hl
 rw [List.length_tail] at hx
 unfold tokT at *
 split
 ·rename_i h1; rw [if_pos h1] at h; simp at h
 ·rename_i h1
  rw [if_neg h1] at h
  split
  ·simp only [List.length_take, List.length_tail]; omega
  ·rename_i h2; rw [if_neg h2] at h; simp at h
/-- more turns do not matter -/
theorem lexM_more : ∀ (n m i : Nat) (l : List UInt8), l.length ≤ n → l.length ≤ m → lexM n i l = lexM m i l := by
 intro n
 induction n with
 | zero => intro m i l h1 h2; obtain rfl := List.eq_nil_of_length_eq_zero (by omega : l.length = 0); cases m <;> simp [lexM]
 | succ n ih =>
  intro m i l h1 h2
  cases l with
  | nil => cases m <;> simp [lexM]
  | cons c r =>
   simp only [List.length_cons] at h1 h2
   obtain ⟨m, rfl⟩ : ∃ k, m = k + 1 := ⟨m - 1, by omega⟩
   rw [lexM, lexM]
   by_cases hs : spcB c
   ·rw [if_pos hs, if_pos hs]; exact ih m _ _ (by omega) (by omega)
   rw [if_neg hs, if_neg hs]
   by_cases he : (tokM i c r).1 = 0
   ·have hp := tok_pos he
    rw [if_pos he, if_pos he, ih m _ _ (by simp; omega) (by simp; omega)]
   ·rw [if_neg he, if_neg he]
end
section
open Go.RowKit
def W64 (x : Int) : Int := IntKind.i64.wrap x
theorem W64_eq (x : Int) : W64 x = (x + 9223372036854775808) % 18446744073709551616 - 9223372036854775808 := by
 simp [W64, IntKind.wrap, IntKind.bits, IntKind.signed]; omega
theorem W64_in {x : Int} (h1 : -9223372036854775808 ≤ x) (h2 : x ≤ 9223372036854775807) : W64 x = x := by rw [W64_eq]; omega
end
section
open Go.RowKit Go.Shelf
/-- what may happen in the iterator between two rounds: of the old blocks q alone turns, and q holds cells -/
structure Wr (q : Nat) (A B : World) : Prop where
 ko : KeepsOthers A B
 os : B.os = A.os
 tape : B.tape = A.tape
 output : B.output = A.output
 block : ∀ k, k < A.heap.size → k ≠ q → B.heap[k]? = A.heap[k]?
theorem Wr.refl (q : Nat) (A : World) : Wr q A A := ⟨KeepsOthers.refl _, rfl, rfl, rfl, fun _ _ _ => rfl⟩
theorem Wr.trans {q : Nat} {A B C : World} (h : Wr q A B) (k : Wr q B C) : Wr q A C := ⟨h.ko.trans k.ko, k.os.trans h.os, k.tape.trans h.tape, k.output.trans h.output, fun i hi hn => (k.block i (Nat.lt_of_lt_of_le hi h.ko.size) hn).trans (h.block i hi hn)⟩
/-- what a loop's caller must bear between two of its rounds: below n nothing but q turns; blocks of cells but q lie as they lay -/
structure Wq (n q : Nat) (A B : World) : Prop where
 size : A.heap.size ≤ B.heap.size
 os : B.os = A.os
 tape : B.tape = A.tape
 output : B.output = A.output
 low : ∀ k, k < n → k ≠ q → B.heap[k]? = A.heap[k]?
 cells : ∀ k o, A.heap[k]? = some o → o.isCells = true → k ≠ q → B.heap[k]? = some o
theorem Wq.trans {n q : Nat} {A B C : World} (h : Wq n q A B) (k : Wq n q B C) : Wq n q A C :=
 ⟨Nat.le_trans h.size k.size, k.os.trans h.os, k.tape.trans h.tape, k.output.trans h.output, fun i hi hn => (k.low i hi hn).trans (h.low i hi hn), fun i o ho hc hn => k.cells i o (h.cells i o ho hc hn) hc hn⟩
theorem Wr.wq {q : Nat} {A B : World} (h : Wr q A B) {n : Nat} (hn : n ≤ A.heap.size) : Wq n q A B :=
 ⟨h.ko.size, h.os, h.tape, h.output, fun k hk hq => h.block k (by omega) hq, fun k o ho _ hq => (h.block k (Array.getElem?_eq_some_iff.1 ho).1 hq).trans ho⟩
theorem Wq.put (n q : Nat) (A : World) (l : Nat) (o o' : Obj) (hl : n ≤ l) (h : A.heap[l]? = some o) (ho : o.isCells = false) : Wq n q A (A.putObj l o') := by
 have hg := grownBy_putObj' A l o'
 refine ⟨hg.size, hg.os, hg.tape, hg.output, fun k hk _ => World.putObj_heap_other (by omega), fun k u hu hc _ => ?_⟩
 have : k ≠ l := fun e => by subst e; rw [h] at hu; cases hu; rw [ho] at hc; cases hc
 exact (World.putObj_heap_other this).trans hu
theorem Wq.alloc (n q : Nat) (A : World) (o : Obj) (hn : n ≤ A.heap.size) : Wq n q A (A.alloc o) :=
 ⟨by simp, rfl, rfl, rfl, fun k hk _ => Below.heap_alloc A o k (by omega), fun k u hu _ _ => (Below.heap_alloc A o k (Array.getElem?_eq_some_iff.1 hu).1).trans hu⟩
end
section
open Go.RowKit FracM
/-- the call computes v and moves no more than the count of draws -/
def Quiet (v : Value) (w : World) (e : Ending) (w' : World) : Prop := e = .returned v ∧ ∃ n, w' = w.drewN n
theorem abs_any (n : Int) (w : World) (h1 : -9223372036854775807 ≤ n) (h2 : n ≤ 9223372036854775807) :
  Calls Tryz.prog 147 #[.int .i64 n] w fun e w' => e = .returned (.int .i64 (n.natAbs : Int)) ∧ w = w' := by
 by_cases h : n < 0
 ·go_enter Tryz.func147, Tryz.ntmps147
  go_wp2
  go_ret
  exact ⟨ret_int (by omega), rfl⟩
 ·go_enter Tryz.func147, Tryz.ntmps147
  go_wp2
  go_ret
  exact ⟨ret_int (by omega), rfl⟩
def GcdRel (k : IntKind) (a b : Nat) (w : World) (u v : Value) (wr : World) : Prop :=
 ∃ x y : Nat, u = .int k x ∧ v = .int k y ∧ x ≤ 9223372036854775807 ∧ y ≤ 9223372036854775807 ∧ Nat.gcd x y = Nat.gcd a b ∧ ∃ n, wr = w.drewN n
theorem gcd_step {x y a b : Nat} (h : Nat.gcd x y = Nat.gcd a b) : Nat.gcd y (x % y) = Nat.gcd a b := by
 rw [← h, Nat.gcd_comm y, FracM.gcd_mod_left]
set_option maxHeartbeats 400000 in
theorem gcd_any (a b : Nat) (w : World) (h1 : a ≤ 9223372036854775807) (h2 : b ≤ 9223372036854775807) :
  Calls Tryz.prog 146 #[.int .i64 a, .int .i64 b] w (Quiet (.int .i64 (Nat.gcd a b : Nat)) w) := by
 go_enter Tryz.func146, Tryz.ntmps146
 go_wp2
 go_loopw [0, 1] (fun u v wr => GcdRel .i64 a b w u v wr) (fun _ v _ => (intOf v).toNat)
 case atStart => exact ⟨a, b, rfl, rfl, h1, h2, rfl, 0, rfl⟩
 case round =>
  obtain ⟨x, y, rfl, rfl, hx, hy, hg, n, rfl⟩ := hrel
  have HG := Lib.hid hg; clear hg
  by_cases hz : y = 0
  ·subst hz
   have HG2 : Hid (x = Nat.gcd a b) := by show x = Nat.gcd a b; simpa using HG.out
   clear HG
   go_wp2
   go_ret
   exact ⟨ret_int (by rw [← HG2.out]), n, rfl⟩
  ·have hz' : ((y : Int) != 0) = true := by simp; omega
   have hz2 : ((y : Int) == 0) = false := by simp; omega
   have hy1 : 1 ≤ (y : Int) := by omega
   have hlt : x % y < y := Nat.mod_lt _ (by omega)
   have hle : x % y ≤ 9223372036854775807 := by omega
   go_wp2
   go_region
   all_goals
    go_wp2
    go_roundw
    case rel => exact ⟨y, x % y, rfl, by go_num, hy, hle, gcd_step HG.out, n + 1, rfl⟩
    case measure => simp [intOf]; omega
theorem abs_same (n : Int) (w : World) (h1 : -9223372036854775807 ≤ n) (h2 : n ≤ 9223372036854775807) :
  Calls Tryz.prog 147 #[.int .i64 n] w fun e w' => e = .returned (.int .i64 (n.natAbs : Int)) ∧ w' = w := (abs_any n w h1 h2).mono fun _ _ ⟨a, b⟩ => ⟨a, b.symm⟩
theorem gcd_q (a b : Nat) (w : World) (h1 : a ≤ 9223372036854775807) (h2 : b ≤ 9223372036854775807) :
  Calls Tryz.prog 146 #[.int .i64 a, .int .i64 b] w fun e w' => e = .returned (.int .i64 (Nat.gcd a b : Nat)) ∧ ∃ n, w' = w.drewN n := gcd_any a b w h1 h2
theorem valid_no {n d : Int} (h : d < 1 ∨ 4611686018427387904 < d ∨ n < -4611686018427387904 ∨ 4611686018427387904 < n) : validB n d = false := by
 rw [Bool.eq_false_iff]; intro hv
 obtain ⟨h1, h2, h3, _⟩ := valid_iff.1 hv
 unfold M at *; omega
theorem valid_yes {n : Int} {d : Nat} (h1 : 1 ≤ d) (h2 : d ≤ 4611686018427387904) (h3 : n.natAbs ≤ 4611686018427387904) : validB n d = decide (((Nat.gcd n.natAbs d : Nat) : Int) = 1) := by
 rw [Bool.eq_iff_iff, valid_iff, decide_eq_true_iff]
 unfold M
 rw [Int.natAbs_natCast]
 omega
set_option maxHeartbeats 400000 in
theorem fvalid_any (n d : Int) (w : World) (l1 : -9223372036854775808 ≤ n) (u1 : n ≤ 9223372036854775807) (l2 : -9223372036854775808 ≤ d) (u2 : d ≤ 9223372036854775807) :
  Calls Tryz.prog 126 #[.agg #[.int .i64 n, .int .i64 d]] w fun e w' => e = .returned (.bool (validB n d)) ∧ Below w.heap.size w w' := by
 by_cases h1 : d < 1
 ·have E := Lib.hid (valid_no (n := n) (d := d) (.inl h1))
  go_enter Tryz.func126, Tryz.ntmps126
  go_wp2
  go_ret
  exact ⟨ret_bool (by rw [E.out]), bel1 _ _⟩
 by_cases h2 : 4611686018427387904 < d
 ·have E := Lib.hid (valid_no (n := n) (d := d) (.inr (.inl h2)))
  go_enter Tryz.func126, Tryz.ntmps126
  go_wp2
  go_ret
  exact ⟨ret_bool (by rw [E.out]), bel1 _ _⟩
 by_cases h3 : n < -4611686018427387904
 ·have E := Lib.hid (valid_no (n := n) (d := d) (.inr (.inr (.inl h3))))
  go_enter Tryz.func126, Tryz.ntmps126
  go_wp2
  go_ret
  exact ⟨ret_bool (by rw [E.out]), bel1 _ _⟩
 by_cases h4 : 4611686018427387904 < n
 ·have E := Lib.hid (valid_no (n := n) (d := d) (.inr (.inr (.inr h4))))
  go_enter Tryz.func126, Tryz.ntmps126
  go_wp2
  go_ret
  exact ⟨ret_bool (by rw [E.out]), bel1 _ _⟩
 obtain ⟨k, rfl⟩ : ∃ k : Nat, d = (k : Int) := ⟨d.toNat, by omega⟩
 have E := Lib.hid (valid_yes (n := n) (d := k) (by omega) (by omega) (by omega))
 go_enter Tryz.func126, Tryz.ntmps126
 go_wp2
 go_quiet (first | (go_at_call 147; exact Calls.quiet_of_same (abs_same _ _ (by omega) (by omega))) | (go_at_call 146; exact Calls.quiet_of (gcd_q _ _ _ (by omega) (by omega))))
 go_wp2
 go_ret
 exact ⟨ret_bool (by rw [E.out]; rfl), bdrew (bel1 _ _) _⟩
end
end Go.Proofs.YtkdojgkiclndfaaGreatDoor
