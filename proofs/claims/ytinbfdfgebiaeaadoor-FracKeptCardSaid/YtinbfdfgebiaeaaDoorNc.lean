/- Plus, Minus, half of the reference. -/
import Derived.Test.YtinbfdfgebiaeaaDoorNa
set_option linter.unusedVariables false
set_option linter.unusedSimpArgs false
namespace Go.Proofs.YtinbfdfgebiaeaaDoor
open Go.RowKit DigM

/-- the first i digits of n, the others of m -/
def mx (n m i j : Nat) : Nat := if j < i then dg n j else dg m j
theorem mx_at (n m i : Nat) : mx n m i i = dg m i := by simp [mx]
theorem mx_past (n m i j : Nat) (h : i ≤ j) : mx n m i j = dg m j := by simp [mx]; omega
theorem mx_zero (n m j : Nat) : mx n m 0 j = dg m j := by simp [mx]
theorem mx_all (n m j : Nat) (h : j < 8) : mx n m 8 j = dg n j := by simp [mx, h]
theorem mx_set (n m i j : Nat) : (if j = i then dg n i else mx n m i j) = mx n m (i + 1) j := by
  unfold mx
  by_cases h : j = i
  · subst h; simp
  · by_cases h2 : j < i
    · simp [h, h2]; omega
    · have : ¬ j < i + 1 := by omega
      simp [h, h2, this]

/-- eight cells laid into a block -/
abbrev put8 (W : World) (g : Nat) (f : Nat → Nat) : World := (((((((W.setCell ⟨g, 0, none⟩ (.int .u64 (f 0 : Nat))).setCell ⟨g, 1, none⟩ (.int .u64 (f 1 : Nat))).setCell ⟨g, 2, none⟩ (.int .u64 (f 2 : Nat))).setCell ⟨g, 3, none⟩ (.int .u64 (f 3 : Nat))).setCell ⟨g, 4, none⟩ (.int .u64 (f 4 : Nat))).setCell ⟨g, 5, none⟩ (.int .u64 (f 5 : Nat))).setCell ⟨g, 6, none⟩ (.int .u64 (f 6 : Nat))).setCell ⟨g, 7, none⟩ (.int .u64 (f 7 : Nat))
theorem put8_below {B : Nat} {w W : World} {g : Nat} (h : Below B w W) (hg : B ≤ g) (f : Nat → Nat) : Below B w (put8 W g f) :=
  (((((((h.setCell (p := ⟨g, 0, none⟩) hg _).setCell (p := ⟨g, 1, none⟩) hg _).setCell (p := ⟨g, 2, none⟩) hg _).setCell (p := ⟨g, 3, none⟩) hg _).setCell (p := ⟨g, 4, none⟩) hg _).setCell (p := ⟨g, 5, none⟩) hg _).setCell (p := ⟨g, 6, none⟩) hg _).setCell (p := ⟨g, 7, none⟩) hg _
theorem int_eq {k : IntKind} {a b : Int} (h : a = b) : Value.int k a = .int k b := by rw [h]
end Go.Proofs.YtinbfdfgebiaeaaDoor
