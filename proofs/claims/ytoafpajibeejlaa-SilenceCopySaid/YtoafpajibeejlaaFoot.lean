/- Footprints of the books. -/
import Derived.Test.YtoafpajibeejlaaLimit
set_option linter.unusedVariables false
set_option linter.unusedSimpArgs false
namespace Go.Proofs.Ytoafpajibeejlaa.F
open Go.RowKit

/-- the block in which the row of a book lies -/
def rowOf (w : World) (p : Nat) : Option Nat := match w.heap[p]? with
  | some (.cells cs _ _) => (cs[0]?).bind Value.ownBlock
  | _ => none
def Foot (w : World) (p k : Nat) : Prop := k = p ∨ rowOf w p = some k
/-- of the old blocks only the book's own have turned; its row lies where it lay, or in a new block -/
structure FF (p : Nat) (w w' : World) : Prop where
  size : w.heap.size ≤ w'.heap.size
  block : ∀ k, k < w.heap.size → ¬ Foot w p k → w'.heap[k]? = w.heap[k]?
  row : ∀ g, rowOf w' p = some g → rowOf w p = some g ∨ w.heap.size ≤ g
theorem rowOf_same {w w' : World} {p : Nat} (h : w'.heap[p]? = w.heap[p]?) : rowOf w' p = rowOf w p := by unfold rowOf; rw [h]
theorem rowOf_blk {w : World} {p : Nat} {t : TypeId} {sv : Value} (h : Blk w p t #[sv]) : rowOf w p = sv.ownBlock := by unfold rowOf; unfold Blk at h; rw [h]; rfl
theorem FF.of_below {p : Nat} {w w' : World} (hp : p < w.heap.size) (h : Below w.heap.size w w') : FF p w w' :=
  ⟨h.size, fun k hk _ => h.block k hk, fun g hg => .inl (by rwa [rowOf_same (h.block p hp)] at hg)⟩
theorem FF.refl (p : Nat) (w : World) : FF p w w := ⟨Nat.le_refl _, fun _ _ _ => rfl, fun _ h => .inl h⟩
theorem FF.drew {p : Nat} {w w' : World} (h : FF p w w') : FF p w w'.drew := ⟨h.size, h.block, h.row⟩
theorem FF.after {p : Nat} {w w1 w' : World} (hp : p < w.heap.size) (hb : Below w.heap.size w w1) (h : FF p w1 w') : FF p w w' := by
  have e := rowOf_same (hb.block p hp)
  refine ⟨Nat.le_trans hb.size h.size, fun k hk hn => ?_, fun g hg => ?_⟩
  · rw [h.block k (Nat.lt_of_lt_of_le hk hb.size) (fun hf => hn (by unfold Foot at hf ⊢; rwa [e] at hf)), hb.block k hk]
  · rcases h.row g hg with h1 | h1
    · exact .inl (by rwa [e] at h1)
    · exact .inr (Nat.le_trans hb.size h1)
theorem FF.set {p g j : Nat} {w : World} (u : Value) (hr : rowOf w p = some g) (hne : g ≠ p) : FF p w (w.setCell ⟨g, j, none⟩ u) := by
  have hb : ∀ k, k ≠ g → (w.setCell ⟨g, j, none⟩ u).heap[k]? = w.heap[k]? := fun k hk => Below.heap_setCell w ⟨g, j, none⟩ u k hk
  refine ⟨by simp [World.setCell], fun k _ hn => hb k (fun e => hn (.inr (by rw [hr, e]))), fun g' hg => .inl ?_⟩
  rwa [rowOf_same (hb p (Ne.symm hne))] at hg
theorem FF.grow {p g n c H : Nat} {w W w9 : World} {t : TypeId} {sv bv : Value} (hb : Below w.heap.size w W) (hblk : Blk w p t #[sv]) (hg : W.grownBy w9 sv.ownBlock) (b9 : Blk w9 p t #[bv]) (hat : sv.ownBlock = some g ∨ g = H) (hH : w.heap.size ≤ H) : FF p w (w9.setCell ⟨p, 0, none⟩ (.slice (some ⟨g, 0, none⟩) n c)) := by
  have hset : ∀ k, k ≠ p → (w9.setCell ⟨p, 0, none⟩ (.slice (some ⟨g, 0, none⟩) n c)).heap[k]? = w9.heap[k]? := fun k hk => Below.heap_setCell w9 ⟨p, 0, none⟩ _ k hk
  have e0 := rowOf_blk hblk
  refine ⟨by have := hg.size; have := hb.size; simp [World.setCell]; omega, fun k hk hn => ?_, fun g' hg' => ?_⟩
  · rw [hset k (fun e => hn (.inl e)), hg.block k (Nat.lt_of_lt_of_le hk hb.size) (fun e => hn (.inr (by first | exact e0.trans e | exact e0.trans e.symm))), hb.block k hk]
  · have e1 := rowOf_blk (b9.set 0 (.slice (some ⟨g, 0, none⟩) n c))
    have e2 : rowOf (w9.setCell ⟨p, 0, none⟩ (.slice (some ⟨g, 0, none⟩) n c)) p = some g := e1
    rw [e2] at hg'
    cases hg'
    rcases hat with h1 | h1
    · exact .inl (e0.trans h1)
    · exact .inr (by omega)
end Go.Proofs.Ytoafpajibeejlaa.F
