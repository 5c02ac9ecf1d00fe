/- Compare of the reference. -/
import Derived.Test.YtinbfdfgebiaeaaDoorNd
import Derived.Test.YtinbfdfgebiaeaaDoorFc
import Derived.Test.YtinbfdfgebiaeaaDoorFi
import Derived.Deep.RegionHeld3
set_option linter.unusedVariables false
set_option linter.unusedSimpArgs false
namespace Go.Proofs.YtinbfdfgebiaeaaDoor
open Go.RowKit FracM DigM

/-- the call gives v and keeps what was there -/
def RetB (v : Value) (w : World) (e : Ending) (w' : World) : Prop := e = .returned v ∧ Below w.heap.size w w'
theorem small {x : Nat} (h : x ≤ 4611686018427387904) : x < 4294967296 ^ 8 := Nat.lt_of_le_of_lt h (by decide)
theorem small2 {x y : Nat} (hx : x ≤ 4611686018427387904) (hy : y ≤ 4611686018427387904) : x * y < 4294967296 ^ 8 :=
  Nat.lt_of_le_of_lt (Nat.mul_le_mul hx hy) (by decide)
theorem size_b (n : Int) (w : World) (h : n.natAbs ≤ 4611686018427387904) : Calls Tryd.prog 33 #[.int .i64 n] w (RetB (.int .u64 (n.natAbs : Nat)) w) := by
  refine (size_any n w (by omega) (by omega)).mono ?_
  rintro e w' ⟨rfl, rfl⟩
  exact ⟨rfl, Below.refl _ _⟩
theorem lessN_sign (a b : Nat) : lessN a b = ((a : Int) - b).sign := by
  unfold lessN
  split
  · rw [Int.sign_eq_neg_one_of_neg (by omega)]
  · split
    · rw [Int.sign_eq_one_of_pos (by omega)]
    · rw [show (a : Int) - b = 0 by omega]; rfl
theorem lessN_bd (a b : Nat) : -1 ≤ lessN a b ∧ lessN a b ≤ 1 := by unfold lessN; split; omega; split <;> omega
theorem rc_pp {n1 n2 : Int} {D1 D2 : Nat} (v1 : validB n1 D1 = true) (v2 : validB n2 D2 = true) (h1 : 0 ≤ n1) (h2 : 0 ≤ n2) : cmpF n1 D1 n2 D2 = lessN (n1.natAbs * D2) (n2.natAbs * D1) := by
  rw [cmp_sign v1 v2, lessN_sign]
  congr 1
  simp only [Int.natCast_mul]
  rw [Int.natAbs_of_nonneg h1, Int.natAbs_of_nonneg h2]
theorem rc_nn {n1 n2 : Int} {D1 D2 : Nat} (v1 : validB n1 D1 = true) (v2 : validB n2 D2 = true) (h1 : n1 < 0) (h2 : n2 < 0) : cmpF n1 D1 n2 D2 = -lessN (n1.natAbs * D2) (n2.natAbs * D1) := by
  rw [cmp_sign v1 v2, lessN_sign, ← Int.sign_neg]
  congr 1
  simp only [Int.natCast_mul]
  rw [show ((n1.natAbs : Nat) : Int) = -n1 by omega, show ((n2.natAbs : Nat) : Int) = -n2 by omega]
  grind
theorem rc_np {n1 n2 : Int} {D1 D2 : Nat} (v1 : validB n1 D1 = true) (v2 : validB n2 D2 = true) (h1 : n1 < 0) (h2 : 0 ≤ n2) : cmpF n1 D1 n2 D2 = -1 := by
  rw [cmp_sign v1 v2]
  apply Int.sign_eq_neg_one_of_neg
  have p1 := (valid_bd v1).2.1; have p2 := (valid_bd v2).2.1
  have a := Int.mul_neg_of_neg_of_pos h1 (show 0 < (D2 : Int) by omega)
  have b := Int.mul_nonneg h2 (show 0 ≤ (D1 : Int) by omega)
  omega
theorem rc_pn {n1 n2 : Int} {D1 D2 : Nat} (v1 : validB n1 D1 = true) (v2 : validB n2 D2 = true) (h1 : 0 ≤ n1) (h2 : n2 < 0) : cmpF n1 D1 n2 D2 = 1 := by
  rw [cmp_sign v1 v2]
  apply Int.sign_eq_one_of_pos
  have p1 := (valid_bd v1).2.1; have p2 := (valid_bd v2).2.1
  have a := Int.mul_neg_of_neg_of_pos h2 (show 0 < (D1 : Int) by omega)
  have b := Int.mul_nonneg h1 (show 0 ≤ (D2 : Int) by omega)
  omega
end Go.Proofs.YtinbfdfgebiaeaaDoor
