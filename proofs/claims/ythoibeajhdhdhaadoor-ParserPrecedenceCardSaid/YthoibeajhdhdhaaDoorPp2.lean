/- Contracts, packed: Base. -/
import Derived.Test.YthoibeajhdhdhaaDoorRows
import Derived.WalkKit
import Derived.WalkSpells
import Derived.WalkLawsBesides
import Derived.Outline
import Derived.Lib.Hide
import Derived.Deep.Draws
import Derived.Deep.QuietTactic
import Derived.BigQuiet
import Derived.Deep.LoopGhost
import Derived.Lib.OthersKept
set_option linter.unusedVariables false
set_option linter.unusedSimpArgs false
namespace Go.Proofs.YthoibeajhdhdhaaDoor
section
open Go.RowKit

theorem ret_int {k : IntKind} {a b : Int} (h : a = b) : Ending.returned (.int k a) = .returned (.int k b) := by rw [h]
theorem ret_bool {a b : Bool} (h : a = b) : Ending.returned (.bool a) = .returned (.bool b) := by rw [h]
/-- Block k is old (below base) or bears the element type t. -/
def Fit (w : World) (base : Nat) (t : TypeId) (k : Nat) : Prop := k < w.heap.size ∧ (k < base ∨ ∃ cs fz, w.heap[k]? = some (.cells cs t fz))

/-- From w to w' only blocks from base on, of the types in T, have turned. -/
structure Fr (base : Nat) (T : List TypeId) (w w' : World) : Prop where
  os : w'.os = w.os
  tape : w'.tape = w.tape
  output : w'.output = w.output
  size : w.heap.size ≤ w'.heap.size
  block : ∀ k, k < w.heap.size → (k < base ∨ ∃ cs t fz, w.heap[k]? = some (.cells cs t fz) ∧ t ∉ T) → w'.heap[k]? = w.heap[k]?

theorem Fr.of_below {base : Nat} {T : List TypeId} {w w' : World} (h : Below w.heap.size w w') : Fr base T w w' :=
  ⟨h.os, h.tape, h.output, h.size, fun k hk _ => h.block k hk⟩
theorem Fr.refl (base : Nat) (T : List TypeId) (w : World) : Fr base T w w := ⟨rfl, rfl, rfl, Nat.le_refl _, fun _ _ _ => rfl⟩
theorem Fr.trans {base : Nat} {T : List TypeId} {a b c : World} (h : Fr base T a b) (k : Fr base T b c) : Fr base T a c :=
  ⟨k.os.trans h.os, k.tape.trans h.tape, k.output.trans h.output, Nat.le_trans h.size k.size, fun i hi hc => by
    have e := h.block i hi hc
    rw [k.block i (Nat.lt_of_lt_of_le hi h.size) (by rw [e]; exact hc), e]⟩
theorem Fr.below {base : Nat} {T : List TypeId} {w w' : World} (h : Fr base T w w') : Below base w w' ∨ w.heap.size < base := by
  by_cases hb : base ≤ w.heap.size
  · exact .inl ⟨h.os, h.tape, h.output, h.size, fun k hk => h.block k (by omega) (.inl hk)⟩
  · exact .inr (by omega)
theorem Fr.more {base : Nat} {T T' : List TypeId} {w w' : World} (h : Fr base T w w') (hT : ∀ t, t ∈ T → t ∈ T') : Fr base T' w w' :=
  ⟨h.os, h.tape, h.output, h.size, fun k hk hc => h.block k hk (by
    rcases hc with hc | ⟨cs, t, fz, hc, ht⟩
    · exact .inl hc
    · exact .inr ⟨cs, t, fz, hc, fun hh => ht (hT _ hh)⟩)⟩

theorem Fit.keep {base : Nat} {T : List TypeId} {w w' : World} {t : TypeId} {k : Nat} (h : Fit w base t k) (f : Fr base T w w') (ht : t ∉ T) : Fit w' base t k ∧ w'.heap[k]? = w.heap[k]? := by
  have e := f.block k h.1 (by
    rcases h.2 with h | ⟨cs, fz, h⟩
    · exact .inl h
    · exact .inr ⟨cs, t, fz, h, ht⟩)
  exact ⟨⟨Nat.lt_of_lt_of_le h.1 f.size, by rw [e]; exact h.2⟩, e⟩

/-- The slice value v has n elements of 'size' cells each, which are the cells xs. -/
def Seq (w : World) (base : Nat) (t : TypeId) (size : Nat) (v : Value) (n : Nat) (xs : List Value) : Prop :=
  xs.length = n * size ∧ ∃ A c, v = .slice A n c ∧ n ≤ c ∧ c ≤ maxLen ∧
    (0 < n → ∃ b off, A = some ⟨b, off, none⟩ ∧ Fit w base t b ∧ ∀ j u, xs[j]? = some u → w.cell? ⟨b, off + j, none⟩ = some u)

theorem Seq.keep {base : Nat} {T : List TypeId} {w w' : World} {t size n : Nat} {v : Value} {xs : List Value} (h : Seq w base t size v n xs) (f : Fr base T w w') (ht : t ∉ T) : Seq w' base t size v n xs := by
  obtain ⟨h1, A, c, hv, hn, hc, h2⟩ := h
  refine ⟨h1, A, c, hv, hn, hc, fun h0 => ?_⟩
  obtain ⟨b, off, hA, hf, hx⟩ := h2 h0
  obtain ⟨hf', e⟩ := hf.keep f ht
  exact ⟨b, off, hA, hf', fun j u hu => (World.cell?_of_block (a := ⟨b, off + j, none⟩) e).trans (hx j u hu)⟩
theorem Seq.below {base : Nat} {w w' : World} {t size n : Nat} {v : Value} {xs : List Value} (h : Seq w base t size v n xs) (f : Below w.heap.size w w') : Seq w' base t size v n xs :=
  h.keep (Fr.of_below (base := base) (T := []) f) (by simp)
theorem Seq.nil (w : World) (base : Nat) (t : TypeId) (size : Nat) : Seq w base t size (.slice none 0 0) 0 [] :=
  ⟨by simp, none, 0, rfl, Nat.le_refl _, by unfold maxLen; omega, fun h => absurd h (by omega)⟩
theorem Seq.of_own {w : World} {base : Nat} {t size n : Nat} {v : Value} {xs : List Value} {base' : Nat} (h : w.ownsRow base t size v n xs) : Seq w base' t size v n xs := by
  obtain ⟨h1, h2⟩ := h
  refine ⟨h1, ?_⟩
  rcases h2 with ⟨rfl, rfl⟩ | ⟨g, cap, cur, rfl, hg, hh, hn, hc, hs, hx⟩
  · exact ⟨none, 0, rfl, Nat.le_refl _, by unfold maxLen; omega, fun h => absurd h (by omega)⟩
  · refine ⟨_, _, rfl, hn, hc, fun h0 => ⟨g, 0, rfl, ⟨?_, .inr ⟨cur, _, hh⟩⟩, fun j u hu => ?_⟩⟩
    · rcases Nat.lt_or_ge g w.heap.size with hlt | hge
      · exact hlt
      · rw [Array.getElem?_eq_none hge] at hh; cases hh
    · rw [← hx] at hu
      rw [List.getElem?_take] at hu
      split at hu
      · simp [World.cell?, hh]; simpa using hu
      · cases hu

theorem bcell {W w1 : World} (hb : Below W.heap.size W w1) : (∀ b o, b < W.heap.size → w1.cell? ⟨b, o, none⟩ = W.cell? ⟨b, o, none⟩) ∧ (∀ b o, b < W.heap.size → w1.frozen? ⟨b, o, none⟩ = W.frozen? ⟨b, o, none⟩) :=
  ⟨fun b o h => hb.cell (p := ⟨b, o, none⟩) h, fun b o h => hb.frozen (p := ⟨b, o, none⟩) h⟩

/-- a cell of an old block reads as it did -/
theorem bat {W w1 : World} {b o : Nat} {v : Value} (hb : Below W.heap.size W w1) (h : b < W.heap.size) (hc : W.cell? ⟨b, o, none⟩ = some v) : w1.cell? ⟨b, o, none⟩ = some v :=
  (hb.cell (p := ⟨b, o, none⟩) h).trans hc
end
end Go.Proofs.YthoibeajhdhdhaaDoor
