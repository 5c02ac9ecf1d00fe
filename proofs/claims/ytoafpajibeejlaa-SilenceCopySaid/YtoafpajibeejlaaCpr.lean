/- SilenceCopy: what the loops know. -/
import Derived.Test.YtoafpajibeejlaaCpm
import Derived.Test.YtoafpajibeejlaaFo4
set_option linter.unusedVariables false
set_option linter.unusedSimpArgs false
namespace Go.Proofs.Ytoafpajibeejlaa
open Go.RowKit

/-- the first loop -/
def CyRel1 (w w1 : World) (k : Nat) (v : Value) (lo : List OpR) (iv : Value) (wr : World) : Prop :=
  ∃ i : Nat, i ≤ k ∧ iv = .int .i64 i ∧ (runM [] (lo.take i)).length ≤ i ∧ (∀ x ∈ runM [] (lo.take i), CapFit x) ∧ Two wr w1.heap.size w1.heap.size (w1.heap.size + 1) (runM [] (lo.take i)) ∧ OpsAt wr w.heap.size v lo ∧ Fr w1.heap.size TT w1 wr
/-- the second loop: the copy c and r -/
def CyRel2 (w w1 W6 : World) (N1 N2 N3 k : Nat) (v : Value) (lo : List OpR) (iv : Value) (wr : World) : Prop :=
  ∃ i : Nat, k ≤ i ∧ i ≤ lo.length ∧ iv = .int .i64 i ∧ (runM [] (lo.take i)).length ≤ i ∧ (∀ x ∈ runM [] (lo.take i), CapFit x) ∧ Two wr w1.heap.size N1 (w1.heap.size + 1) (runM [] (lo.take i)) ∧ OpsAt wr w.heap.size v lo ∧
    (∀ g, F.rowOf wr N1 = some g → (N1 ≤ g ∧ g < N2) ∨ N3 ≤ g) ∧ (∀ g, F.rowOf wr (w1.heap.size + 1) = some g → N3 ≤ g) ∧ (∀ kk, (kk < N1 ∧ kk ≠ w1.heap.size + 1) ∨ (N2 ≤ kk ∧ kk < N3) → wr.heap[kk]? = W6.heap[kk]?) ∧ Fr w1.heap.size TT W6 wr
/-- the third loop: b and r -/
def CyRel3 (w w1 W6 : World) (N1 N5 k : Nat) (v : Value) (lo : List OpR) (iv : Value) (wr : World) : Prop :=
  ∃ i : Nat, k ≤ i ∧ i ≤ lo.length ∧ iv = .int .i64 i ∧ (runM [] (lo.take i)).length ≤ i ∧ (∀ x ∈ runM [] (lo.take i), CapFit x) ∧ Two wr w1.heap.size w1.heap.size (w1.heap.size + 1) (runM [] (lo.take i)) ∧ OpsAt wr w.heap.size v lo ∧
    (∀ g, F.rowOf wr w1.heap.size = some g → g < N1 ∨ N5 ≤ g) ∧ (∀ g, F.rowOf wr (w1.heap.size + 1) = some g → N5 ≤ g) ∧ (∀ kk, N1 ≤ kk → kk < N5 → wr.heap[kk]? = W6.heap[kk]?) ∧ Fr w1.heap.size TT W6 wr
theorem OpsAt.kfr {w w' : World} {base base' : Nat} {v : Value} {l : List OpR} (h : OpsAt w base v l) (f : Fr base' TT w w') (hb : base ≤ base') : OpsAt w' base v l :=
  h.keep (T := TT) ⟨f.os, f.tape, f.output, f.size, fun k hk hc => f.block k hk (hc.imp (fun h => by omega) id)⟩ (by decide) (by decide) (by decide)
theorem cy2 {w w1 W6 wr w5 : World} {N1 N2 N3 i : Nat} {lo : List OpR} (hN : w1.heap.size + 1 < N1) (hN2 : N1 < N2) (hN3 : N2 ≤ N3) (hz : N3 ≤ wr.heap.size)
    (h : (∀ g, F.rowOf wr N1 = some g → (N1 ≤ g ∧ g < N2) ∨ N3 ≤ g) ∧ (∀ g, F.rowOf wr (w1.heap.size + 1) = some g → N3 ≤ g) ∧ (∀ kk, (kk < N1 ∧ kk ≠ w1.heap.size + 1) ∨ (N2 ≤ kk ∧ kk < N3) → wr.heap[kk]? = W6.heap[kk]?) ∧ Fr w1.heap.size TT W6 wr)
    (f : Fr w1.heap.size TT wr w5 ∧ F.F2 N1 (w1.heap.size + 1) wr w5) :
    (∀ g, F.rowOf w5 N1 = some g → (N1 ≤ g ∧ g < N2) ∨ N3 ≤ g) ∧ (∀ g, F.rowOf w5 (w1.heap.size + 1) = some g → N3 ≤ g) ∧ (∀ kk, (kk < N1 ∧ kk ≠ w1.heap.size + 1) ∨ (N2 ≤ kk ∧ kk < N3) → w5.heap[kk]? = W6.heap[kk]?) ∧ Fr w1.heap.size TT W6 w5 := by
  obtain ⟨h1, h2, h3, h4⟩ := h
  refine ⟨fun g hg => ?_, fun g hg => ?_, fun kk hk => ?_, h4.trans f.1⟩
  · rcases f.2.rowp g hg with e | e
    · exact h1 g e
    · right; omega
  · rcases f.2.rowq g hg with e | e
    · exact h2 g e
    · omega
  · rw [f.2.block kk (by omega) ?_ ?_, h3 kk hk]
    · rintro (e | e)
      · omega
      · rcases h1 kk e with h | h <;> omega
    · rintro (e | e)
      · omega
      · have := h2 kk e; omega
theorem cy3 {w w1 W6 wr w5 : World} {N1 N5 i : Nat} {lo : List OpR} (hN : w1.heap.size + 1 < N1) (hN5 : N1 ≤ N5) (hz : N5 ≤ wr.heap.size)
    (h : (∀ g, F.rowOf wr w1.heap.size = some g → g < N1 ∨ N5 ≤ g) ∧ (∀ g, F.rowOf wr (w1.heap.size + 1) = some g → N5 ≤ g) ∧ (∀ kk, N1 ≤ kk → kk < N5 → wr.heap[kk]? = W6.heap[kk]?) ∧ Fr w1.heap.size TT W6 wr)
    (f : Fr w1.heap.size TT wr w5 ∧ F.F2 w1.heap.size (w1.heap.size + 1) wr w5) :
    (∀ g, F.rowOf w5 w1.heap.size = some g → g < N1 ∨ N5 ≤ g) ∧ (∀ g, F.rowOf w5 (w1.heap.size + 1) = some g → N5 ≤ g) ∧ (∀ kk, N1 ≤ kk → kk < N5 → w5.heap[kk]? = W6.heap[kk]?) ∧ Fr w1.heap.size TT W6 w5 := by
  obtain ⟨h1, h2, h3, h4⟩ := h
  refine ⟨fun g hg => ?_, fun g hg => ?_, fun kk hk hk5 => ?_, h4.trans f.1⟩
  · rcases f.2.rowp g hg with e | e
    · exact h1 g e
    · right; omega
  · rcases f.2.rowq g hg with e | e
    · exact h2 g e
    · omega
  · rw [f.2.block kk (by omega) ?_ ?_, h3 kk hk hk5]
    · rintro (e | e)
      · omega
      · rcases h1 kk e with h | h <;> omega
    · rintro (e | e)
      · omega
      · have := h2 kk e; omega
end Go.Proofs.Ytoafpajibeejlaa
