/- SilenceLeast: the plain law. -/
import Derived.Test.YtoafpajibeejlaaCapM
set_option linter.unusedVariables false
set_option linter.unusedSimpArgs false
namespace Go.Proofs.Ytoafpajibeejlaa
open Go.RowKit

/-- v says which silence from place j on is the first that covers -/
def LeastW (sl : List Sil) (ls : List Lab) (cls tick : Int) (j : Nat) (v : Int) : Prop :=
  (v = 0 ∧ ∀ i x, sl[i]? = some x → j ≤ i → covS x ls cls tick = false) ∨
  ∃ i x, sl[i]? = some x ∧ j ≤ i ∧ v = (i : Int) + 1 ∧ covS x ls cls tick = true ∧ ∀ i' x', sl[i']? = some x' → j ≤ i' → i' < i → covS x' ls cls tick = false
theorem LeastW.start (sl : List Sil) (ls : List Lab) (cls tick : Int) : LeastW sl ls cls tick sl.length 0 := by
  left
  refine ⟨rfl, fun i x hi hj => ?_⟩
  have := (List.getElem?_eq_some_iff.1 hi).1
  omega
theorem LeastW.yes {sl : List Sil} {ls : List Lab} {cls tick : Int} {j : Nat} {s : Sil} (hj : sl[j]? = some s) (h : covS s ls cls tick = true) : LeastW sl ls cls tick j ((j : Int) + 1) :=
  .inr ⟨j, s, hj, Nat.le_refl _, rfl, h, fun i' x' _ h1 h2 => by omega⟩
theorem LeastW.no {sl : List Sil} {ls : List Lab} {cls tick v : Int} {j : Nat} {s : Sil} (hW : LeastW sl ls cls tick (j + 1) v) (hj : sl[j]? = some s) (h : covS s ls cls tick = false) : LeastW sl ls cls tick j v := by
  rcases hW with ⟨h0, h1⟩ | ⟨i, x, hi, hji, hv, hc, hn⟩
  · left
    refine ⟨h0, fun i x hi hle => ?_⟩
    rcases Nat.eq_or_lt_of_le hle with e | e
    · subst e; rw [hj] at hi; cases hi; exact h
    · exact h1 i x hi e
  · right
    refine ⟨i, x, hi, by omega, hv, hc, fun i' x' hi' hle hlt => ?_⟩
    rcases Nat.eq_or_lt_of_le hle with e | e
    · subst e; rw [hj] at hi'; cases hi'; exact h
    · exact hn i' x' hi' e hlt
/-- at the end: what Hide returns -/
theorem LeastW.hide {sl : List Sil} {ls : List Lab} {cls tick v h : Int} (hW : LeastW sl ls cls tick 0 v) (hI : CapInv sl h) :
    (v = 0 ∧ hideM sl ls cls tick = ((0, false), sl)) ∨ ∃ (i : Nat) (s : Sil), sl[i]? = some s ∧ v = (i : Int) + 1 ∧ hideM sl ls cls tick = (((i : Int) + 1, true), sl.set i { s with hd := s.hd + 1 }) ∧ CapInv (sl.set i { s with hd := s.hd + 1 }) (h + 1) ∧ 0 ≤ s.hd ∧ s.hd ≤ 100 := by
  rcases hW with ⟨h0, h1⟩ | ⟨i, x, hi, hji, hv, hc, hn⟩
  · exact .inl ⟨h0, hideM_no fun j x hj => h1 j x hj (Nat.zero_le _)⟩
  · right
    have hok := hI.2 _ _ hi
    have hcp := cov_parts hc
    have hy := hideM_yes hi hc (fun j x hj hlt => hn j x hj (Nat.zero_le _) hlt)
    refine ⟨i, x, hi, hv, by rw [hy, hok.1], ?_, hok.2.1, by have := hok.2.2.1; have := hok.2.2.2.1; omega⟩
    have := hI.set (s' := { x with hd := x.hd + 1 }) hi ⟨hok.1, by have := hok.2.1; simp only; omega, by simp only; omega, hok.2.2.2.1, hok.2.2.2.2.1, hok.2.2.2.2.2⟩
    simpa [show h - x.hd + (x.hd + 1) = h + 1 by omega] using this
end Go.Proofs.Ytoafpajibeejlaa
