/- Contracts, packed: Qy Jk Qm Rb. -/
import Derived.Test.YthoibeajhdhdhaaDoorPp11
import Derived.Test.YthoibeajhdhdhaaDoorPp21
import Derived.Test.YthoibeajhdhdhaaDoorPp30
set_option linter.unusedVariables false
set_option linter.unusedSimpArgs false
namespace Go.Proofs.YthoibeajhdhdhaaDoor
section
section
open Go.RowKit FracM

def IntsP (w : World) (v : Value) (l : List Int) : Prop := SeqP w (fun b _ => b < w.heap.size) 1 v l.length (l.map (Value.int .i64)) ∧ ∀ x ∈ l, I64 x
end
section
open Go.RowKit FracM

theorem IntsP.belo {w w' : World} {v : Value} {l : List Int} (h : IntsP w v l) (f : Below w.heap.size w w') : IntsP w' v l := ⟨(h.1.mono fun b e hb hp => by have := f.size; omega).keep (Agree.of_below f), h.2⟩
theorem IntsP.cons {w : World} {A : Option Addr} {n c : Nat} {x : Int} {l : List Int} (h : IntsP w (.slice A n c) (x :: l)) : ∃ b off, A = some ⟨b, off, none⟩ ∧ n = l.length + 1 ∧ l.length + 1 ≤ c ∧ c ≤ 9223372036854775807 ∧ w.cell? ⟨b, off, none⟩ = some (.int .i64 x) ∧ I64 x ∧ (c ≠ 1 → IntsP w (.slice (some ⟨b, off + 1, none⟩) l.length (c - 1)) l) ∧ (c = 1 → l = []) := by
  obtain ⟨⟨h1, A', c', hv, h3, h4, h2⟩, hz⟩ := h
  cases hv
  obtain ⟨b, off, rfl, hb, hp, hx⟩ := h2 (by simp)
  unfold maxLen at h4
  simp only [List.length_cons] at h3 hp
  refine ⟨b, off, rfl, by simp, by omega, by omega, by simpa using hx 0 _ rfl, hz x (by simp), fun hc => ⟨⟨by simp, _, _, rfl, by omega, by unfold maxLen; omega, fun h0 => ⟨b, off + 1, rfl, hb, by simpa using hb, fun j u hu => ?_⟩⟩, fun y hy => hz y (by simp [hy])⟩, fun hc => ?_⟩
  · have := hx (j + 1) u (by simpa using hu)
    rw [show off + 1 + j = off + (j + 1) by omega]; exact this
  · exact List.eq_nil_of_length_eq_zero (by omega)
theorem IntsP.nil (w : World) (A : Option Addr) (c : Nat) (hc : c ≤ 1000) : IntsP w (.slice A 0 c) [] := ⟨⟨rfl, _, _, rfl, by simp, by unfold maxLen; omega, fun h => by simp at h⟩, fun x hx => by simp at hx⟩
end
end
section
open Go.RowKit FracM
end
section
open Go.RowKit FracM

def DxOk (w : World) (P : Nat → Nat → Prop) (x : Dx) : Prop := SeqP w P 2 x.lv x.dc.2.1.length (x.dc.2.1.flatMap labCells) ∧ x.dc.1.size ≤ maxLen ∧ I64 x.dc.2.2.1 ∧ I64 x.dc.2.2.2.1 ∧ I64 x.dc.2.2.2.2
def DecsAt (w : World) (P : Nat → Nat → Prop) (v : Value) (l : List Dx) : Prop := SeqP w P 12 v l.length (l.flatMap dcL) ∧ ∀ x ∈ l, DxOk w P x
theorem DecsAt.keep {w w' : World} {P : Nat → Nat → Prop} {v : Value} {l : List Dx} (h : DecsAt w P v l) (f : Agree P w w') : DecsAt w' P v l := ⟨h.1.keep f, fun x hx => ⟨(h.2 x hx).1.keep f, (h.2 x hx).2⟩⟩
theorem DecsAt.mono {w : World} {P Q : Nat → Nat → Prop} {v : Value} {l : List Dx} (h : DecsAt w P v l) (hq : ∀ b e, b < w.heap.size → P b e → Q b e) : DecsAt w Q v l := ⟨h.1.mono hq, fun x hx => ⟨(h.2 x hx).1.mono hq, (h.2 x hx).2⟩⟩
abbrev At12 (w : World) (b o : Nat) (x : Dx) : Prop := w.cell? ⟨b, o, none⟩ = some (.string x.dc.1) ∧ w.cell? ⟨b, o + 1, none⟩ = some x.lv ∧ w.cell? ⟨b, o + 2, none⟩ = some (.int .i64 x.dc.2.2.1) ∧ w.cell? ⟨b, o + 3, none⟩ = some (.int .i64 x.dc.2.2.2.1) ∧ w.cell? ⟨b, o + 4, none⟩ = some (.int .i64 x.dc.2.2.2.2) ∧ w.cell? ⟨b, o + 5, none⟩ = some (.int .i64 (x.o 0)) ∧ w.cell? ⟨b, o + 6, none⟩ = some (.int .i64 (x.o 1)) ∧ w.cell? ⟨b, o + 7, none⟩ = some (.int .i64 (x.o 2)) ∧ w.cell? ⟨b, o + 8, none⟩ = some (.int .i64 (x.o 3)) ∧ w.cell? ⟨b, o + 9, none⟩ = some (.int .i64 (x.o 4)) ∧ w.cell? ⟨b, o + 10, none⟩ = some (.int .i64 (x.o 5)) ∧ w.cell? ⟨b, o + 11, none⟩ = some (.int .i64 (x.o 6))
theorem DecsAt.at_ {w : World} {P : Nat → Nat → Prop} {A : Option Addr} {n c : Nat} {l : List Dx} (h : DecsAt w P (.slice A n c) l) (i : Nat) (x : Dx) (hi : l[i]? = some x) :
    ∃ b off, A = some ⟨b, off, none⟩ ∧ b < w.heap.size ∧ (∃ z, P b z) ∧ At12 w b (off + i * 12) x := by
  have hlt : i < l.length := (List.getElem?_eq_some_iff.1 hi).1
  obtain ⟨⟨_, A', c', hv, _, _, h2⟩, _⟩ := h
  cases hv
  obtain ⟨b, off, rfl, hb, hp, hx⟩ := h2 (by omega)
  refine ⟨b, off, rfl, hb, ⟨_, hp⟩, ?_⟩
  have g := fun j (hj : j < 12) => flat_get dcL 12 (fun _ => rfl) l i j _ hi hj
  refine ⟨?_, ?_, ?_, ?_, ?_, ?_, ?_, ?_, ?_, ?_, ?_, ?_⟩
  · exact hx _ _ ((g 0 (by omega)).trans rfl)
  · rw [Nat.add_assoc]; exact hx _ _ ((g 1 (by omega)).trans rfl)
  · rw [Nat.add_assoc]; exact hx _ _ ((g 2 (by omega)).trans rfl)
  · rw [Nat.add_assoc]; exact hx _ _ ((g 3 (by omega)).trans rfl)
  · rw [Nat.add_assoc]; exact hx _ _ ((g 4 (by omega)).trans rfl)
  · rw [Nat.add_assoc]; exact hx _ _ ((g 5 (by omega)).trans rfl)
  · rw [Nat.add_assoc]; exact hx _ _ ((g 6 (by omega)).trans rfl)
  · rw [Nat.add_assoc]; exact hx _ _ ((g 7 (by omega)).trans rfl)
  · rw [Nat.add_assoc]; exact hx _ _ ((g 8 (by omega)).trans rfl)
  · rw [Nat.add_assoc]; exact hx _ _ ((g 9 (by omega)).trans rfl)
  · rw [Nat.add_assoc]; exact hx _ _ ((g 10 (by omega)).trans rfl)
  · rw [Nat.add_assoc]; exact hx _ _ ((g 11 (by omega)).trans rfl)
theorem DecsAt.len {w : World} {P : Nat → Nat → Prop} {A : Option Addr} {n c : Nat} {l : List Dx} (h : DecsAt w P (.slice A n c) l) : n = l.length ∧ n ≤ 9223372036854775807 := by
  obtain ⟨⟨_, _, _, hv, h1, h2, _⟩, _⟩ := h
  cases hv
  unfold maxLen at h2
  exact ⟨rfl, by omega⟩
end
section
open Go.RowKit FracM
end
end Go.Proofs.YthoibeajhdhdhaaDoor
