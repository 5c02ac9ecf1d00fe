/- Labels and matchers: Get, Match, ValidMatcher of package labels and of its reference. -/
import Derived.Test.YtgomgoacponbkaaDoorStr2
set_option linter.unusedVariables false
set_option linter.unusedSimpArgs false
namespace Go.Proofs.YtgomgoacponbkaaDoor
open Go.RowKit

abbrev Lab := ByteArray × ByteArray
abbrev Mat := ByteArray × Int × ByteArray
def labCells (x : Lab) : List Value := [.string x.1, .string x.2]
def matCells (x : Mat) : List Value := [.string x.1, .int .i64 x.2.1, .string x.2.2]

theorem flat_len {α : Type} (f : α → List Value) (size : Nat) (hf : ∀ x, (f x).length = size) (l : List α) : (l.flatMap f).length = l.length * size := by
  induction l with
  | nil => simp
  | cons x r ih => rw [List.flatMap_cons, List.length_append, ih, hf, List.length_cons, Nat.succ_mul]; omega
theorem flat_get {α : Type} (f : α → List Value) (size : Nat) (hf : ∀ x, (f x).length = size) (l : List α) (i j : Nat) (x : α) (hi : l[i]? = some x) (hj : j < size) :
    (l.flatMap f)[i * size + j]? = (f x)[j]? := by
  induction l generalizing i with
  | nil => simp at hi
  | cons y r ih =>
    rw [List.flatMap_cons]
    cases i with
    | zero =>
      simp at hi; subst hi
      rw [List.getElem?_append_left (by rw [hf]; omega)]; simp
    | succ i =>
      simp at hi
      rw [List.getElem?_append_right (by rw [hf, Nat.succ_mul]; omega), hf]
      rw [show (i + 1) * size + j - size = i * size + j by rw [Nat.succ_mul]; omega]
      exact ih i hi

def Labs (w : World) (base : Nat) (v : Value) (l : List Lab) : Prop := Seq w base 78 2 v l.length (l.flatMap labCells)
def Mats (w : World) (base : Nat) (v : Value) (l : List Mat) : Prop := Seq w base 84 3 v l.length (l.flatMap matCells)

theorem Labs.below {w w' : World} {base : Nat} {v : Value} {l : List Lab} (h : Labs w base v l) (f : Below w.heap.size w w') : Labs w' base v l := Seq.below h f
theorem Mats.below {w w' : World} {base : Nat} {v : Value} {l : List Mat} (h : Mats w base v l) (f : Below w.heap.size w w') : Mats w' base v l := Seq.below h f
theorem Labs.keep {w w' : World} {base : Nat} {T : List TypeId} {v : Value} {l : List Lab} (h : Labs w base v l) (f : Fr base T w w') (ht : 78 ∉ T) : Labs w' base v l := Seq.keep h f ht
theorem Mats.keep {w w' : World} {base : Nat} {T : List TypeId} {v : Value} {l : List Mat} (h : Mats w base v l) (f : Fr base T w w') (ht : 84 ∉ T) : Mats w' base v l := Seq.keep h f ht

/-- one element of a slice of labels: its two cells -/
theorem Labs.at_ {w : World} {base : Nat} {A : Option Addr} {n c : Nat} {l : List Lab} (h : Labs w base (.slice A n c) l) (k : Nat) (x : Lab) (hk : l[k]? = some x) :
    ∃ b off, A = some ⟨b, off, none⟩ ∧ b < w.heap.size ∧ w.cell? ⟨b, off + k * 2, none⟩ = some (.string x.1) ∧ w.cell? ⟨b, off + k * 2 + 1, none⟩ = some (.string x.2) := by
  obtain ⟨_, A', c', hv, _, _, h2⟩ := h
  cases hv
  have hlt : k < l.length := (List.getElem?_eq_some_iff.1 hk).1
  obtain ⟨b, off, rfl, hf, hx⟩ := h2 (by omega)
  refine ⟨b, off, rfl, hf.1, ?_, ?_⟩
  · have := flat_get labCells 2 (fun _ => rfl) l k 0 x hk (by omega)
    exact hx _ _ (this.trans rfl)
  · have := flat_get labCells 2 (fun _ => rfl) l k 1 x hk (by omega)
    have := hx _ _ (this.trans rfl)
    rwa [← Nat.add_assoc] at this
theorem Mats.at_ {w : World} {base : Nat} {A : Option Addr} {n c : Nat} {l : List Mat} (h : Mats w base (.slice A n c) l) (k : Nat) (x : Mat) (hk : l[k]? = some x) :
    ∃ b off, A = some ⟨b, off, none⟩ ∧ b < w.heap.size ∧ w.cell? ⟨b, off + k * 3, none⟩ = some (.string x.1) ∧ w.cell? ⟨b, off + k * 3 + 1, none⟩ = some (.int .i64 x.2.1) ∧ w.cell? ⟨b, off + k * 3 + 2, none⟩ = some (.string x.2.2) := by
  obtain ⟨_, A', c', hv, _, _, h2⟩ := h
  cases hv
  have hlt : k < l.length := (List.getElem?_eq_some_iff.1 hk).1
  obtain ⟨b, off, rfl, hf, hx⟩ := h2 (by omega)
  refine ⟨b, off, rfl, hf.1, ?_, ?_, ?_⟩
  · have := flat_get matCells 3 (fun _ => rfl) l k 0 x hk (by omega)
    exact hx _ _ (this.trans rfl)
  · have := flat_get matCells 3 (fun _ => rfl) l k 1 x hk (by omega)
    have := hx _ _ (this.trans rfl)
    rwa [← Nat.add_assoc] at this
  · have := flat_get matCells 3 (fun _ => rfl) l k 2 x hk (by omega)
    have := hx _ _ (this.trans rfl)
    rwa [← Nat.add_assoc] at this
theorem Labs.len {w : World} {base : Nat} {A : Option Addr} {n c : Nat} {l : List Lab} (h : Labs w base (.slice A n c) l) : n = l.length ∧ n ≤ 9223372036854775807 := by
  obtain ⟨_, A', c', hv, h1, h2, _⟩ := h
  cases hv
  unfold maxLen at h2
  exact ⟨rfl, by omega⟩
theorem Mats.len {w : World} {base : Nat} {A : Option Addr} {n c : Nat} {l : List Mat} (h : Mats w base (.slice A n c) l) : n = l.length ∧ n ≤ 9223372036854775807 := by
  obtain ⟨_, A', c', hv, h1, h2, _⟩ := h
  cases hv
  unfold maxLen at h2
  exact ⟨rfl, by omega⟩

/-- the value of the first label with this name -/
def getL (l : List Lab) (nm : ByteArray) : ByteArray := match l with
  | [] => ⟨#[]⟩
  | x :: r => if x.1.toList == nm.toList then x.2 else getL r nm
theorem getL_yes {l : List Lab} {k : Nat} {x : Lab} {nm : ByteArray} (hk : l[k]? = some x) (h : (x.1.toList == nm.toList) = true) : getL (l.drop k) nm = x.2 := by
  obtain ⟨hlt, e⟩ := List.getElem?_eq_some_iff.1 hk
  rw [List.drop_eq_getElem_cons hlt, e]
  unfold getL
  rw [if_pos h]
theorem getL_no {l : List Lab} {k : Nat} {x : Lab} {nm : ByteArray} (hk : l[k]? = some x) (h : (x.1.toList == nm.toList) = false) : getL (l.drop k) nm = getL (l.drop (k + 1)) nm := by
  obtain ⟨hlt, e⟩ := List.getElem?_eq_some_iff.1 hk
  rw [List.drop_eq_getElem_cons hlt, e]
  conv => lhs; unfold getL
  rw [if_neg (by simp [h])]

set_option maxHeartbeats 400000 in
theorem rget_any (A : Option Addr) (n c base : Nat) (l : List Lab) (nm : ByteArray) (w : World) (h : Labs w base (.slice A n c) l) :
    Calls Tryd.prog 110 #[.slice A n c, .string nm] w fun e w' => e = .returned (.string (getL l nm)) ∧ w = w' := by
  obtain ⟨hn, hm⟩ := h.len
  have HN := Lib.hid hn; clear hn
  have HL := Lib.hid h; clear h
  go_enter Tryd.func110, Tryd.ntmps110
  go_wp2
  go_loop [5] (fun i => ∃ k : Nat, k ≤ n ∧ i = .int .i64 k ∧ Hid (getL (l.drop k) nm = getL l nm)) (fun i => n - (intOf i).toNat)
  case atStart => exact ⟨0, Nat.zero_le _, rfl, rfl⟩
  case round =>
    obtain ⟨k, hk, rfl, HK⟩ := hrel
    by_cases hlt : k < n
    · obtain ⟨x, hx⟩ : ∃ x, l[k]? = some x := ⟨l[k]'(by rw [← HN.out]; exact hlt), List.getElem?_eq_getElem _⟩
      obtain ⟨b, off, rfl, hb, c0, c1⟩ := HL.out.at_ k x hx
      have HX := Lib.hid hx; clear hx
      by_cases he : (x.1.toList == nm.toList) = true
      · go_wp2
        go_ret
        exact ⟨ret_str (by rw [← HK.out, getL_yes HX.out he]), rfl⟩
      · have he' : (x.1.toList == nm.toList) = false := by simpa using he
        clear he
        go_wp2
        go_round
        case rel => exact ⟨k + 1, by omega, by go_num, by rw [← HK.out, getL_no HX.out he']; rfl⟩
        case measure => simp [intOf]; omega
    · go_wp2
      go_ret
      exact ⟨ret_str (by rw [← HK.out, List.drop_eq_nil_of_le (by rw [← HN.out]; omega)]; rfl), rfl⟩

set_option maxHeartbeats 400000 in
theorem get_any (A : Option Addr) (n c base : Nat) (l : List Lab) (nm : ByteArray) (w : World) (h : Labs w base (.slice A n c) l) :
    Calls Tryd.prog 86 #[.slice A n c, .string nm] w fun e w' => e = .returned (.string (getL l nm)) ∧ Below w.heap.size w w' := by
  obtain ⟨hn, hm⟩ := h.len
  have HN := Lib.hid hn; clear hn
  have HL := Lib.hid h; clear h
  go_enter Tryd.func86, Tryd.ntmps86
  go_wp2
  go_loopw [9] (fun i wr => ∃ k : Nat, k ≤ n ∧ i = .int .i64 k ∧ Below w.heap.size w wr ∧ Hid (getL (l.drop k) nm = getL l nm)) (fun i _ => n - (intOf i).toNat)
  case atStart => exact ⟨0, Nat.zero_le _, rfl, Below.refl _ _, rfl⟩
  case round =>
    obtain ⟨k, hk, rfl, hbw, HK⟩ := hrel
    have hsz := hbw.size
    by_cases hlt : k < n
    · obtain ⟨x, hx⟩ : ∃ x, l[k]? = some x := ⟨l[k]'(by rw [← HN.out]; exact hlt), List.getElem?_eq_getElem _⟩
      obtain ⟨b, off, rfl, hb, c0, c1⟩ := (HL.out.below hbw).at_ k x hx
      have HX := Lib.hid hx; clear hx
      have HB := Lib.hid hbw; clear hbw
      by_cases he : (x.1.toList == nm.toList) = true
      · go_wp2
        go_ret
        exact ⟨ret_str (by rw [← HK.out, getL_yes HX.out he]), HB.out.alloc hsz _⟩
      · have he' : (x.1.toList == nm.toList) = false := by simpa using he
        clear he
        go_wp2
        go_roundw
        case rel => exact ⟨k + 1, by omega, by go_num, HB.out.alloc hsz _, by rw [← HK.out, getL_no HX.out he']; rfl⟩
        case measure => simp [intOf]; omega
    · go_wp2
      go_ret
      exact ⟨ret_str (by rw [← HK.out, List.drop_eq_nil_of_le (by rw [← HN.out]; omega)]; rfl), hbw⟩
end Go.Proofs.YtgomgoacponbkaaDoor
