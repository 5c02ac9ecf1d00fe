/- Contracts, packed: Ya Kb Qf. -/
import Derived.Test.YthoibeajhdhdhaaDoorPp1
import Derived.Test.YthoibeajhdhdhaaDoorPp3
import Derived.Deep.RegionHeld3
import Derived.Deep.DeepCutAuto
import Derived.RangeFuncNested
import Derived.RangeFuncBound
import Derived.RangeFuncCalls
import Derived.RangeFuncLeaves
import Derived.RangeFuncFrom
import Derived.RangeFuncKeeps
import Derived.Shelf.Abstract
import Derived.Shelf.RegionOpen
import Derived.WalkKit
import Derived.OwnWalkIn
import Derived.TacticsInMore
import Derived.LoopNIn
import Derived.LoopIn
import Derived.RegionTactic
import Derived.ChangeAlike
set_option linter.unusedVariables false
set_option linter.unusedSimpArgs false
namespace Go.Proofs.YthoibeajhdhdhaaDoor
section
open Go.RowKit

def W64 (x : Int) : Int := IntKind.i64.wrap x
theorem W64_eq (x : Int) : W64 x = (x + 9223372036854775808) % 18446744073709551616 - 9223372036854775808 := by
  simp [W64, IntKind.wrap, IntKind.bits, IntKind.signed]; omega
theorem W64_in {x : Int} (h1 : -9223372036854775808 ≤ x) (h2 : x ≤ 9223372036854775807) : W64 x = x := by rw [W64_eq]; omega
end
section
open Go.RowKit Go.Shelf

/-- what may happen in the iterator between two rounds: of the old blocks q alone turns, and q holds cells -/
structure Wr (q : Nat) (A B : World) : Prop where
  ko : KeepsOthers A B
  os : B.os = A.os
  tape : B.tape = A.tape
  output : B.output = A.output
  block : ∀ k, k < A.heap.size → k ≠ q → B.heap[k]? = A.heap[k]?
theorem Wr.refl (q : Nat) (A : World) : Wr q A A := ⟨KeepsOthers.refl _, rfl, rfl, rfl, fun _ _ _ => rfl⟩
theorem Wr.trans {q : Nat} {A B C : World} (h : Wr q A B) (k : Wr q B C) : Wr q A C := ⟨h.ko.trans k.ko, k.os.trans h.os, k.tape.trans h.tape, k.output.trans h.output, fun i hi hn => (k.block i (Nat.lt_of_lt_of_le hi h.ko.size) hn).trans (h.block i hi hn)⟩
/-- what a loop's caller must bear between two of its rounds: below n nothing but q turns; blocks of cells but q lie as they lay -/
structure Wq (n q : Nat) (A B : World) : Prop where
  size : A.heap.size ≤ B.heap.size
  os : B.os = A.os
  tape : B.tape = A.tape
  output : B.output = A.output
  low : ∀ k, k < n → k ≠ q → B.heap[k]? = A.heap[k]?
  cells : ∀ k o, A.heap[k]? = some o → o.isCells = true → k ≠ q → B.heap[k]? = some o
theorem Wq.refl (n q : Nat) (A : World) : Wq n q A A := ⟨Nat.le_refl _, rfl, rfl, rfl, fun _ _ _ => rfl, fun _ _ h _ _ => h⟩
theorem Wq.trans {n q : Nat} {A B C : World} (h : Wq n q A B) (k : Wq n q B C) : Wq n q A C :=
  ⟨Nat.le_trans h.size k.size, k.os.trans h.os, k.tape.trans h.tape, k.output.trans h.output, fun i hi hn => (k.low i hi hn).trans (h.low i hi hn), fun i o ho hc hn => k.cells i o (h.cells i o ho hc hn) hc hn⟩
theorem Wr.wq {q : Nat} {A B : World} (h : Wr q A B) {n : Nat} (hn : n ≤ A.heap.size) : Wq n q A B :=
  ⟨h.ko.size, h.os, h.tape, h.output, fun k hk hq => h.block k (by omega) hq, fun k o ho _ hq => (h.block k (Array.getElem?_eq_some_iff.1 ho).1 hq).trans ho⟩
theorem Wq.put (n q : Nat) (A : World) (l : Nat) (o o' : Obj) (hl : n ≤ l) (h : A.heap[l]? = some o) (ho : o.isCells = false) : Wq n q A (A.putObj l o') := by
  have hg := grownBy_putObj' A l o'
  refine ⟨hg.size, hg.os, hg.tape, hg.output, fun k hk _ => World.putObj_heap_other (by omega), fun k u hu hc _ => ?_⟩
  have : k ≠ l := fun e => by subst e; rw [h] at hu; cases hu; rw [ho] at hc; cases hc
  exact (World.putObj_heap_other this).trans hu
theorem Wq.alloc (n q : Nat) (A : World) (o : Obj) (hn : n ≤ A.heap.size) : Wq n q A (A.alloc o) :=
  ⟨by simp, rfl, rfl, rfl, fun k hk _ => Below.heap_alloc A o k (by omega), fun k u hu _ _ => (Below.heap_alloc A o k (Array.getElem?_eq_some_iff.1 hu).1).trans hu⟩
end
section
open Go.RowKit FracM

/-- the call computes v and moves no more than the count of draws -/
def Quiet (v : Value) (w : World) (e : Ending) (w' : World) : Prop := e = .returned v ∧ ∃ n, w' = w.drewN n

theorem abs_any (n : Int) (w : World) (h1 : -9223372036854775807 ≤ n) (h2 : n ≤ 9223372036854775807) :
    Calls Tryd.prog 31 #[.int .i64 n] w fun e w' => e = .returned (.int .i64 (n.natAbs : Int)) ∧ w = w' := by
  by_cases h : n < 0
  · go_enter Tryd.func31, Tryd.ntmps31
    go_wp2
    go_ret
    exact ⟨ret_int (by omega), rfl⟩
  · go_enter Tryd.func31, Tryd.ntmps31
    go_wp2
    go_ret
    exact ⟨ret_int (by omega), rfl⟩

def GcdRel (k : IntKind) (a b : Nat) (w : World) (u v : Value) (wr : World) : Prop :=
  ∃ x y : Nat, u = .int k x ∧ v = .int k y ∧ x ≤ 9223372036854775807 ∧ y ≤ 9223372036854775807 ∧ Nat.gcd x y = Nat.gcd a b ∧ ∃ n, wr = w.drewN n
theorem gcd_step {x y a b : Nat} (h : Nat.gcd x y = Nat.gcd a b) : Nat.gcd y (x % y) = Nat.gcd a b := by
  rw [← h, Nat.gcd_comm y, FracM.gcd_mod_left]

set_option maxHeartbeats 400000 in
theorem gcd_any (a b : Nat) (w : World) (h1 : a ≤ 9223372036854775807) (h2 : b ≤ 9223372036854775807) :
    Calls Tryd.prog 30 #[.int .i64 a, .int .i64 b] w (Quiet (.int .i64 (Nat.gcd a b : Nat)) w) := by
  go_enter Tryd.func30, Tryd.ntmps30
  go_wp2
  go_loopw [0, 1] (fun u v wr => GcdRel .i64 a b w u v wr) (fun _ v _ => (intOf v).toNat)
  case atStart => exact ⟨a, b, rfl, rfl, h1, h2, rfl, 0, rfl⟩
  case round =>
    obtain ⟨x, y, rfl, rfl, hx, hy, hg, n, rfl⟩ := hrel
    have HG := Lib.hid hg; clear hg
    by_cases hz : y = 0
    · subst hz
      have HG2 : Hid (x = Nat.gcd a b) := by show x = Nat.gcd a b; simpa using HG.out
      clear HG
      go_wp2
      go_ret
      exact ⟨ret_int (by rw [← HG2.out]), n, rfl⟩
    · have hz' : ((y : Int) != 0) = true := by simp; omega
      have hz2 : ((y : Int) == 0) = false := by simp; omega
      have hy1 : 1 ≤ (y : Int) := by omega
      have hlt : x % y < y := Nat.mod_lt _ (by omega)
      have hle : x % y ≤ 9223372036854775807 := by omega
      go_wp2
      go_region
      all_goals
        go_wp2
        go_roundw
        case rel => exact ⟨y, x % y, rfl, by go_num, hy, hle, gcd_step HG.out, n + 1, rfl⟩
        case measure => simp [intOf]; omega

theorem abs_same (n : Int) (w : World) (h1 : -9223372036854775807 ≤ n) (h2 : n ≤ 9223372036854775807) :
    Calls Tryd.prog 31 #[.int .i64 n] w fun e w' => e = .returned (.int .i64 (n.natAbs : Int)) ∧ w' = w := (abs_any n w h1 h2).mono fun _ _ ⟨a, b⟩ => ⟨a, b.symm⟩
theorem gcd_q (a b : Nat) (w : World) (h1 : a ≤ 9223372036854775807) (h2 : b ≤ 9223372036854775807) :
    Calls Tryd.prog 30 #[.int .i64 a, .int .i64 b] w fun e w' => e = .returned (.int .i64 (Nat.gcd a b : Nat)) ∧ ∃ n, w' = w.drewN n := gcd_any a b w h1 h2
theorem valid_no {n d : Int} (h : d < 1 ∨ 4611686018427387904 < d ∨ n < -4611686018427387904 ∨ 4611686018427387904 < n) : validB n d = false := by
  rw [Bool.eq_false_iff]; intro hv
  obtain ⟨h1, h2, h3, _⟩ := valid_iff.1 hv
  unfold M at *; omega
theorem valid_yes {n : Int} {d : Nat} (h1 : 1 ≤ d) (h2 : d ≤ 4611686018427387904) (h3 : n.natAbs ≤ 4611686018427387904) : validB n d = decide (((Nat.gcd n.natAbs d : Nat) : Int) = 1) := by
  rw [Bool.eq_iff_iff, valid_iff, decide_eq_true_iff]
  unfold M
  rw [Int.natAbs_natCast]
  omega
set_option maxHeartbeats 400000 in
theorem fvalid_any (n d : Int) (w : World) (l1 : -9223372036854775808 ≤ n) (u1 : n ≤ 9223372036854775807) (l2 : -9223372036854775808 ≤ d) (u2 : d ≤ 9223372036854775807) :
    Calls Tryd.prog 48 #[.agg #[.int .i64 n, .int .i64 d]] w fun e w' => e = .returned (.bool (validB n d)) ∧ Below w.heap.size w w' := by
  by_cases h1 : d < 1
  · have E := Lib.hid (valid_no (n := n) (d := d) (.inl h1))
    go_enter Tryd.func48, Tryd.ntmps48
    go_wp2
    go_ret
    exact ⟨ret_bool (by rw [E.out]), bel1 _ _⟩
  by_cases h2 : 4611686018427387904 < d
  · have E := Lib.hid (valid_no (n := n) (d := d) (.inr (.inl h2)))
    go_enter Tryd.func48, Tryd.ntmps48
    go_wp2
    go_ret
    exact ⟨ret_bool (by rw [E.out]), bel1 _ _⟩
  by_cases h3 : n < -4611686018427387904
  · have E := Lib.hid (valid_no (n := n) (d := d) (.inr (.inr (.inl h3))))
    go_enter Tryd.func48, Tryd.ntmps48
    go_wp2
    go_ret
    exact ⟨ret_bool (by rw [E.out]), bel1 _ _⟩
  by_cases h4 : 4611686018427387904 < n
  · have E := Lib.hid (valid_no (n := n) (d := d) (.inr (.inr (.inr h4))))
    go_enter Tryd.func48, Tryd.ntmps48
    go_wp2
    go_ret
    exact ⟨ret_bool (by rw [E.out]), bel1 _ _⟩
  obtain ⟨k, rfl⟩ : ∃ k : Nat, d = (k : Int) := ⟨d.toNat, by omega⟩
  have E := Lib.hid (valid_yes (n := n) (d := k) (by omega) (by omega) (by omega))
  go_enter Tryd.func48, Tryd.ntmps48
  go_wp2
  go_quiet (first | (go_at_call 31; exact Calls.quiet_of_same (abs_same _ _ (by omega) (by omega))) | (go_at_call 30; exact Calls.quiet_of (gcd_q _ _ _ (by omega) (by omega))))
  go_wp2
  go_ret
  exact ⟨ret_bool (by rw [E.out]; rfl), bdrew (bel1 _ _) _⟩
end
end Go.Proofs.YthoibeajhdhdhaaDoor
