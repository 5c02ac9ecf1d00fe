/- Slices of integers and of strings; Pick; the fixed lists of the generators. -/
import Derived.Test.YtgomgoacponbkaaDoorQs
set_option linter.unusedVariables false
set_option linter.unusedSimpArgs false
namespace Go.Proofs.YtgomgoacponbkaaDoor
open Go.RowKit

def I64 (x : Int) : Prop := -9223372036854775808 ≤ x ∧ x ≤ 9223372036854775807
def Ints (w : World) (base : Nat) (v : Value) (l : List Int) : Prop := Seq w base 3 1 v l.length (l.map (Value.int .i64)) ∧ ∀ x ∈ l, I64 x
def Strs (w : World) (base : Nat) (v : Value) (l : List ByteArray) : Prop := Seq w base 9 1 v l.length (l.map Value.string)

theorem Ints.nil (w : World) (base : Nat) : Ints w base (.slice none 0 0) [] := ⟨Seq.nil _ _ _ _, fun x hx => by simp at hx⟩
theorem Ints.below {w w' : World} {base : Nat} {v : Value} {l : List Int} (h : Ints w base v l) (f : Below w.heap.size w w') : Ints w' base v l := ⟨h.1.below f, h.2⟩
theorem Ints.keep {w w' : World} {base : Nat} {T : List TypeId} {v : Value} {l : List Int} (h : Ints w base v l) (f : Fr base T w w') (ht : 3 ∉ T) : Ints w' base v l := ⟨h.1.keep f ht, h.2⟩
theorem Strs.below {w w' : World} {base : Nat} {v : Value} {l : List ByteArray} (h : Strs w base v l) (f : Below w.heap.size w w') : Strs w' base v l := Seq.below h f
theorem Seq.len {w : World} {base t size m n c : Nat} {A : Option Addr} {xs : List Value} (h : Seq w base t size (.slice A n c) m xs) : n = m ∧ n ≤ 9223372036854775807 := by
  obtain ⟨_, A', c', hv, h1, h2, _⟩ := h
  cases hv
  unfold maxLen at h2
  exact ⟨rfl, by omega⟩
theorem Seq.at1 {w : World} {base t n c : Nat} {A : Option Addr} {m : Nat} {xs : List Value} (h : Seq w base t 1 (.slice A n c) m xs) (k : Nat) (u : Value) (hk : xs[k]? = some u) : ∃ b off, A = some ⟨b, off, none⟩ ∧ b < w.heap.size ∧ w.cell? ⟨b, off + k, none⟩ = some u := by
  obtain ⟨h1, A', c', hv, _, _, h2⟩ := h
  cases hv
  have hlt : k < xs.length := (List.getElem?_eq_some_iff.1 hk).1
  obtain ⟨b, off, rfl, hf, hx⟩ := h2 (by omega)
  exact ⟨b, off, rfl, hf.1, hx k u hk⟩
/-- an argument that is a slice of integers -/
theorem Ints.of_row {w : World} {x : Addr} {len cap : Nat} {zs : List Int} (hl : len ≤ cap) (hm : cap ≤ maxLen) (hz : zs.length = cap) (hcell : ∀ i, i < zs.length → w.cell? (x.add i) = some (.int .i64 (zs.getD i 0))) (hwf : ∀ n ∈ zs, (Lit.int .i64 n).wf = true) :
    Ints w w.heap.size (.slice (some x) len cap) (zs.take len) := by
  have hl' : (zs.take len).length = len := by rw [List.length_take]; omega
  refine ⟨⟨by simp, some x, cap, by rw [hl'], by omega, hm, fun h0 => ?_⟩, fun y hy => ?_⟩
  · have h1 := hcell 0 (by omega)
    have hsp : x.spot = none := by
      cases hs : x.spot with
      | none => rfl
      | some q =>
        simp only [Addr.add, if_pos, World.cell?] at h1
        split at h1
        · simp [hs] at h1
        · cases h1
    obtain ⟨b, off, sp⟩ := x
    simp only at hsp
    subst hsp
    have hb : b < w.heap.size := World.block_lt_of_cell? w ⟨b, off, none⟩ (u := .int .i64 (zs.getD 0 0)) (by simpa [Addr.add] using h1)
    refine ⟨b, off, rfl, ⟨hb, .inl hb⟩, fun j u hu => ?_⟩
    rw [List.getElem?_map] at hu
    obtain ⟨y, hy, rfl⟩ := Option.map_eq_some_iff.1 hu
    obtain ⟨hjl, hjy⟩ := List.getElem?_eq_some_iff.1 hy
    have hj : j < zs.length := by rw [List.length_take] at hjl; omega
    have := hcell j hj
    have e : zs.getD j 0 = y := by rw [← hjy, List.getElem_take]; simp [List.getD_eq_getElem?_getD, hj]
    rw [e] at this
    unfold Addr.add at this
    split at this
    · next h => subst h; exact this
    · exact this
  · have := hwf y (List.mem_of_mem_take hy)
    simpa [I64, Lit.wf, IntKind.min, IntKind.max, IntKind.signed, IntKind.bits] using this

/-- 'Pick' -/
def pickZ (l : List Int) (i most : Int) : Int := if i < 0 ∨ (l.length : Int) ≤ i then 0 else around (l.getD i.toNat 0) most
theorem pick_bd (l : List Int) (i most : Int) (h : 1 ≤ most) : 0 ≤ pickZ l i most ∧ pickZ l i most < most := by
  unfold pickZ
  split
  · omega
  · exact around_bd _ _ h

set_option maxHeartbeats 400000 in
theorem pick_any (A : Option Addr) (n c base : Nat) (l : List Int) (i most : Int) (w : World) (h : Ints w base (.slice A n c) l) (h1 : 1 ≤ most) (h2 : most ≤ 9223372036854775807) :
    Calls Tryd.prog 31 #[.slice A n c, .int .i64 i, .int .i64 most] w fun e w' => e = .returned (.int .i64 (pickZ l i most)) ∧ w = w' := by
  obtain ⟨hn, hm⟩ := h.1.len
  by_cases h0 : i < 0
  · have E : Hid (pickZ l i most = 0) := if_pos (.inl h0)
    clear h hn
    go_enter Tryd.func31, Tryd.ntmps31
    go_wp2
    go_ret
    exact ⟨ret_int (by rw [E.out]), rfl⟩
  by_cases h3 : (n : Int) ≤ i
  · have E : Hid (pickZ l i most = 0) := if_pos (.inr (by omega))
    clear h hn
    go_enter Tryd.func31, Tryd.ntmps31
    go_wp2
    go_ret
    exact ⟨ret_int (by rw [E.out]), rfl⟩
  obtain ⟨k, rfl⟩ : ∃ k : Nat, i = (k : Int) := ⟨i.toNat, by omega⟩
  have hk : k < l.length := by omega
  have hk' : k < n := by omega
  have hx : l[k]? = some l[k] := List.getElem?_eq_getElem hk
  have E : Hid (pickZ l (k : Int) most = around l[k] most) := by
    unfold pickZ
    rw [Hid, if_neg (by omega)]
    simp [List.getD_eq_getElem?_getD, hx]
  obtain ⟨b, off, rfl, hb, hc⟩ := h.1.at1 k (.int .i64 l[k]) (by rw [List.getElem?_map, hx]; rfl)
  have hr := h.2 l[k] (List.getElem_mem hk)
  obtain ⟨hr1, hr2⟩ := hr
  generalize l[k] = z at *
  clear h hn hx
  go_enter Tryd.func31, Tryd.ntmps31
  go_wp2_with (go_at_call 21; refine (around_any _ _ _ hr1 hr2 h1 h2).mono ?_; rintro e w' ⟨rfl, rfl⟩)
  go_ret
  exact ⟨ret_int (by rw [E.out]), rfl⟩

theorem names_any (w : World) : Calls Tryd.prog 44 #[] w fun e w' => e = .returned (.slice (some ⟨w.heap.size, 0, none⟩) 6 6) ∧ w' = w.alloc (.cells #[.string ⟨#[97]⟩, .string ⟨#[97, 98]⟩, .string ⟨#[98]⟩, .string ⟨#[106, 111, 98]⟩, .string ⟨#[120, 95, 49]⟩, .string ⟨#[122, 111, 110, 101]⟩] 9) := by
  go_enter Tryd.func44, Tryd.ntmps44
  go_wp2
  go_ret
  exact ⟨rfl, rfl⟩
theorem values_any (w : World) : Calls Tryd.prog 45 #[] w fun e w' => e = .returned (.slice (some ⟨w.heap.size, 0, none⟩) 6 6) ∧ w' = w.alloc (.cells #[.string ⟨#[97]⟩, .string ⟨#[97, 98]⟩, .string ⟨#[98]⟩, .string ⟨#[120, 49]⟩, .string ⟨#[126, 33]⟩, .string ⟨#[48]⟩] 9) := by
  go_enter Tryd.func45, Tryd.ntmps45
  go_wp2
  go_ret
  exact ⟨rfl, rfl⟩
/-- a block of literal strings, as a slice -/
theorem Strs.new (w : World) (base : Nat) (l : List ByteArray) (cs : Array Value) (h : cs.toList = l.map Value.string) (hl : l.length ≤ 1000) : Strs (w.alloc (.cells cs 9)) base (.slice (some ⟨w.heap.size, 0, none⟩) l.length l.length) l := by
  refine ⟨by simp, _, _, rfl, Nat.le_refl _, by unfold maxLen; omega, fun _ => ⟨w.heap.size, 0, rfl, ⟨by simp, .inr ⟨_, _, heap_alloc_new w _⟩⟩, ?_⟩⟩
  intro j u hj
  rw [← h] at hj
  have := cell_of_row (w.alloc (.cells cs 9)) w.heap.size (0 + j) cs 9 (0, 0) (heap_alloc_new w _)
  rw [this, Nat.zero_add]
  simpa using hj
end Go.Proofs.YtgomgoacponbkaaDoor
