/- Contracts, packed: Match Match2 Yb Yc. -/
import Derived.Test.YthoibeajhdhdhaaDoorPp3
import Derived.Test.YthoibeajhdhdhaaDoorPp4
import Derived.Test.YthoibeajhdhdhaaDoorPp5
import Derived.Deep.RegionHeld3
import Derived.WalkSmall
set_option linter.unusedVariables false
set_option linter.unusedSimpArgs false
namespace Go.Proofs.YthoibeajhdhdhaaDoor
section
open Go.RowKit

abbrev Lab := ByteArray × ByteArray
abbrev Mat := ByteArray × Int × ByteArray
def labCells (x : Lab) : List Value := [.string x.1, .string x.2]
def matCells (x : Mat) : List Value := [.string x.1, .int .i64 x.2.1, .string x.2.2]

theorem flat_get {α : Type} (f : α → List Value) (size : Nat) (hf : ∀ x, (f x).length = size) (l : List α) (i j : Nat) (x : α) (hi : l[i]? = some x) (hj : j < size) :
    (l.flatMap f)[i * size + j]? = (f x)[j]? := by
  induction l generalizing i with
  | nil => simp at hi
  | cons y r ih =>
    rw [List.flatMap_cons]
    cases i with
    | zero =>
      simp at hi; subst hi
      rw [List.getElem?_append_left (by rw [hf]; omega)]; simp
    | succ i =>
      simp at hi
      rw [List.getElem?_append_right (by rw [hf, Nat.succ_mul]; omega), hf]
      rw [show (i + 1) * size + j - size = i * size + j by rw [Nat.succ_mul]; omega]
      exact ih i hi

def Mats (w : World) (base : Nat) (v : Value) (l : List Mat) : Prop := Seq w base 68 3 v l.length (l.flatMap matCells)

theorem Mats.below {w w' : World} {base : Nat} {v : Value} {l : List Mat} (h : Mats w base v l) (f : Below w.heap.size w w') : Mats w' base v l := Seq.below h f
theorem Mats.keep {w w' : World} {base : Nat} {T : List TypeId} {v : Value} {l : List Mat} (h : Mats w base v l) (f : Fr base T w w') (ht : 68 ∉ T) : Mats w' base v l := Seq.keep h f ht

theorem Mats.at_ {w : World} {base : Nat} {A : Option Addr} {n c : Nat} {l : List Mat} (h : Mats w base (.slice A n c) l) (k : Nat) (x : Mat) (hk : l[k]? = some x) :
    ∃ b off, A = some ⟨b, off, none⟩ ∧ b < w.heap.size ∧ w.cell? ⟨b, off + k * 3, none⟩ = some (.string x.1) ∧ w.cell? ⟨b, off + k * 3 + 1, none⟩ = some (.int .i64 x.2.1) ∧ w.cell? ⟨b, off + k * 3 + 2, none⟩ = some (.string x.2.2) := by
  obtain ⟨_, A', c', hv, _, _, h2⟩ := h
  cases hv
  have hlt : k < l.length := (List.getElem?_eq_some_iff.1 hk).1
  obtain ⟨b, off, rfl, hf, hx⟩ := h2 (by omega)
  refine ⟨b, off, rfl, hf.1, ?_, ?_, ?_⟩
  · have := flat_get matCells 3 (fun _ => rfl) l k 0 x hk (by omega)
    exact hx _ _ (this.trans rfl)
  · have := flat_get matCells 3 (fun _ => rfl) l k 1 x hk (by omega)
    have := hx _ _ (this.trans rfl)
    rwa [← Nat.add_assoc] at this
  · have := flat_get matCells 3 (fun _ => rfl) l k 2 x hk (by omega)
    have := hx _ _ (this.trans rfl)
    rwa [← Nat.add_assoc] at this
theorem Mats.len {w : World} {base : Nat} {A : Option Addr} {n c : Nat} {l : List Mat} (h : Mats w base (.slice A n c) l) : n = l.length ∧ n ≤ 9223372036854775807 := by
  obtain ⟨_, A', c', hv, h1, h2, _⟩ := h
  cases hv
  unfold maxLen at h2
  exact ⟨rfl, by omega⟩
end
section
open Go.RowKit

def vmatB (m : Mat) : Bool := nameB m.1 && (decide (0 ≤ m.2.1) && decide (m.2.1 ≤ 2)) && valueB m.2.2
end
section
open Go.RowKit

abbrev reqC : Array Value := #[.int .i64 1, .int .i64 6, .int .i64 5, .int .i64 0, .int .i64 0, .int .i64 0, .int .i64 0, .string ⟨#[114, 101, 113]⟩, .slice none 0 0, .slice none 0 0, .slice none 0 0]
def RetB (v : Value) (w : World) (e : Ending) (w' : World) : Prop := e = .returned v ∧ Below w.heap.size w w'
/-- what the program's own variables hold -/
structure WordsW (w : World) : Prop where
  groups : ∀ k : Nat, k < 5 → ∃ s : ByteArray, w.cell? ⟨3, k, none⟩ = some (.string s) ∧ (s.toList == [114, 101, 113]) = false
  low : 3 < w.heap.size ∧ 3 < w.heap.size
end
section
open Go.RowKit

abbrev reqS : ByteArray := ⟨#[114, 101, 113]⟩
theorem WordsW.below {w w' : World} (h : WordsW w) (hb : Below w.heap.size w w') : WordsW w' := by
  obtain ⟨h1, h5, h6⟩ := h
  refine ⟨fun k hk => ?_, Nat.lt_of_lt_of_le h5 hb.size, Nat.lt_of_lt_of_le h6 hb.size⟩
  obtain ⟨s, hs, hn⟩ := h1 k hk
  exact ⟨s, (hb.cell h5).trans hs, hn⟩
structure Q1 (w W : World) : Prop where
  below : Below w.heap.size w W
  blk : Blk W w.heap.size 29 reqC
theorem Q1.next {w W W' : World} (h : Q1 w W) (hb : Below W.heap.size W W') : Q1 w W' := ⟨bthen h.below hb (Nat.le_refl _), h.blk.below hb⟩
theorem Q1.start (w : World) : Q1 w (w.alloc (.cells reqC 29)) := ⟨bel1 _ _, Blk.new _ _ _⟩
abbrev ReqAt (g : Nat) (w' : World) : Prop := w'.cell? ⟨g, 0, none⟩ = some (.int .i64 1) ∧ w'.cell? ⟨g, 1, none⟩ = some (.int .i64 6) ∧ w'.cell? ⟨g, 2, none⟩ = some (.int .i64 5) ∧ w'.cell? ⟨g, 3, none⟩ = some (.int .i64 0) ∧ w'.cell? ⟨g, 4, none⟩ = some (.int .i64 0) ∧ w'.cell? ⟨g, 5, none⟩ = some (.int .i64 0) ∧ w'.cell? ⟨g, 6, none⟩ = some (.int .i64 0) ∧ w'.cell? ⟨g, 7, none⟩ = some (.string reqS) ∧ w'.cell? ⟨g, 8, none⟩ = some (.slice none 0 0) ∧ w'.cell? ⟨g, 9, none⟩ = some (.slice none 0 0) ∧ w'.cell? ⟨g, 10, none⟩ = some (.slice none 0 0)
theorem req_at {W : World} {g : Nat} (h : Blk W g 29 reqC) : ReqAt g W := by
  unfold Blk at h
  refine ⟨?_, ?_, ?_, ?_, ?_, ?_, ?_, ?_, ?_, ?_, ?_⟩ <;> simp [World.cell?, h]
theorem Q1.c {w W : World} (h : Q1 w W) : ReqAt w.heap.size W := req_at h.blk
end
end Go.Proofs.YthoibeajhdhdhaaDoor
