/- Contracts, packed: Base Bk Fm Str. -/
import Derived.Test.YtkdojgkiclndfaaGreatDoorRows
import Derived.WalkKit
import Derived.WalkSpells
import Derived.WalkLawsBesides
import Derived.Outline
import Derived.Lib.Hide
import Derived.Deep.Draws
import Derived.Deep.QuietTactic
import Derived.BigQuiet
import Derived.Deep.LoopGhost
import Derived.Lib.OthersKept
set_option linter.unusedVariables false
set_option linter.unusedSimpArgs false

namespace FracM

theorem gcd_mod_left (t g : Nat) : Nat.gcd (t % g) g = Nat.gcd t g := by
 rw [Nat.gcd_comm t g, Nat.gcd_rec g t]
/-- 2^62 -/
def M : Nat := 4611686018427387904
/-- p over q in lowest terms, with an error: 5 beyond the range -/
def low (p : Int) (q : Nat) : Int × Int × Int :=
 if p.natAbs / Nat.gcd p.natAbs q ≤ M ∧ q / Nat.gcd p.natAbs q ≤ M then
  (p.sign * ((p.natAbs / Nat.gcd p.natAbs q : Nat) : Int), ((q / Nat.gcd p.natAbs q : Nat) : Int), 0)
 else (0, 0, 5)
def validB (n d : Int) : Bool := decide (1 ≤ d) && decide (d ≤ M) && decide (n.natAbs ≤ M) && (Nat.gcd n.natAbs d.natAbs == 1)
theorem valid_iff {n d : Int} : validB n d = true ↔ 1 ≤ d ∧ d ≤ M ∧ n.natAbs ≤ M ∧ Nat.gcd n.natAbs d.natAbs = 1 := by
 unfold validB; simp [Bool.and_eq_true, and_assoc]
end FracM

namespace Go.Proofs.YtkdojgkiclndfaaGreatDoor
section
open Go.RowKit
theorem ret_int {k : IntKind} {a b : Int} (h : a = b) : Ending.returned (.int k a) = .returned (.int k b) := by rw [h]
theorem ret_bool {a b : Bool} (h : a = b) : Ending.returned (.bool a) = .returned (.bool b) := by rw [h]
/-- Block k is old (below base) or bears the element type t. -/
def Fit (w : World) (base : Nat) (t : TypeId) (k : Nat) : Prop := k < w.heap.size ∧ (k < base ∨ ∃ cs fz, w.heap[k]? = some (.cells cs t fz))
/-- From w to w' only blocks from base on, of the types in T, have turned. -/
structure Fr (base : Nat) (T : List TypeId) (w w' : World) : Prop where
 os : w'.os = w.os
 tape : w'.tape = w.tape
 output : w'.output = w.output
 size : w.heap.size ≤ w'.heap.size
 block : ∀ k, k < w.heap.size → (k < base ∨ ∃ cs t fz, w.heap[k]? = some (.cells cs t fz) ∧ t ∉ T) → w'.heap[k]? = w.heap[k]?
theorem Fr.of_below {base : Nat} {T : List TypeId} {w w' : World} (h : Below w.heap.size w w') : Fr base T w w' :=
 ⟨h.os, h.tape, h.output, h.size, fun k hk _ => h.block k hk⟩
theorem Fr.trans {base : Nat} {T : List TypeId} {a b c : World} (h : Fr base T a b) (k : Fr base T b c) : Fr base T a c :=
 ⟨k.os.trans h.os, k.tape.trans h.tape, k.output.trans h.output, Nat.le_trans h.size k.size, fun i hi hc => by
  have e := h.block i hi hc
  rw [k.block i (Nat.lt_of_lt_of_le hi h.size) (by rw [e]; exact hc), e]⟩
theorem Fit.keep {base : Nat} {T : List TypeId} {w w' : World} {t : TypeId} {k : Nat} (h : Fit w base t k) (f : Fr base T w w') (ht : t ∉ T) : Fit w' base t k ∧ w'.heap[k]? = w.heap[k]? := by
 have e := f.block k h.1 (by
  rcases h.2 with h | ⟨cs, fz, h⟩
  ·exact .inl h
  ·exact .inr ⟨cs, t, fz, h, ht⟩)
 exact ⟨⟨Nat.lt_of_lt_of_le h.1 f.size, by rw [e]; exact h.2⟩, e⟩
/-- The slice value v has n elements of 'size' cells each, which are the cells xs. -/
def Seq (w : World) (base : Nat) (t : TypeId) (size : Nat) (v : Value) (n : Nat) (xs : List Value) : Prop :=
 xs.length = n * size ∧ ∃ A c, v = .slice A n c ∧ n ≤ c ∧ c ≤ maxLen ∧
  (0 < n → ∃ b off, A = some ⟨b, off, none⟩ ∧ Fit w base t b ∧ ∀ j u, xs[j]? = some u → w.cell? ⟨b, off + j, none⟩ = some u)
theorem Seq.keep {base : Nat} {T : List TypeId} {w w' : World} {t size n : Nat} {v : Value} {xs : List Value} (h : Seq w base t size v n xs) (f : Fr base T w w') (ht : t ∉ T) : Seq w' base t size v n xs := by
 obtain ⟨h1, A, c, hv, hn, hc, h2⟩ := h
 refine ⟨h1, A, c, hv, hn, hc, fun h0 => ?_⟩
 obtain ⟨b, off, hA, hf, hx⟩ := h2 h0
 obtain ⟨hf', e⟩ := hf.keep f ht
 exact ⟨b, off, hA, hf', fun j u hu => (World.cell?_of_block (a := ⟨b, off + j, none⟩) e).trans (hx j u hu)⟩
theorem Seq.below {base : Nat} {w w' : World} {t size n : Nat} {v : Value} {xs : List Value} (h : Seq w base t size v n xs) (f : Below w.heap.size w w') : Seq w' base t size v n xs :=
 h.keep (Fr.of_below (base := base) (T := []) f) (by simp)
theorem Seq.nil (w : World) (base : Nat) (t : TypeId) (size : Nat) : Seq w base t size (.slice none 0 0) 0 [] :=
 ⟨by simp, none, 0, rfl, Nat.le_refl _, by unfold maxLen; omega, fun h => absurd h (by omega)⟩
theorem Seq.of_own {w : World} {base : Nat} {t size n : Nat} {v : Value} {xs : List Value} {base' : Nat} (h : w.ownsRow base t size v n xs) : Seq w base' t size v n xs := by
 obtain ⟨h1, h2⟩ := h
 refine ⟨h1, ?_⟩
 rcases h2 with ⟨rfl, rfl⟩ | ⟨g, cap, cur, rfl, hg, hh, hn, hc, hs, hx⟩
 ·exact ⟨none, 0, rfl, Nat.le_refl _, by unfold maxLen; omega, fun h => absurd h (by omega)⟩
 ·refine ⟨_, _, rfl, hn, hc, fun h0 => ⟨g, 0, rfl, ⟨?_, .inr ⟨cur, _, hh⟩⟩, fun j u hu => ?_⟩⟩
  ·rcases Nat.lt_or_ge g w.heap.size with hlt | hge
   ·exact hlt
   ·rw [Array.getElem?_eq_none hge] at hh; cases hh
  ·rw [← hx] at hu
   rw [List.getElem?_take] at hu
   split at hu
   ·simp [World.cell?, hh]; simpa using hu
   ·cases hu
theorem bcell {W w1 : World} (hb : Below W.heap.size W w1) : (∀ b o, b < W.heap.size → w1.cell? ⟨b, o, none⟩ = W.cell? ⟨b, o, none⟩) ∧ (∀ b o, b < W.heap.size → w1.frozen? ⟨b, o, none⟩ = W.frozen? ⟨b, o, none⟩) :=
 ⟨fun b o h => hb.cell (p := ⟨b, o, none⟩) h, fun b o h => hb.frozen (p := ⟨b, o, none⟩) h⟩
/-- a cell of an old block reads as it did -/
theorem bat {W w1 : World} {b o : Nat} {v : Value} (hb : Below W.heap.size W w1) (h : b < W.heap.size) (hc : W.cell? ⟨b, o, none⟩ = some v) : w1.cell? ⟨b, o, none⟩ = some v :=
 (hb.cell (p := ⟨b, o, none⟩) h).trans hc
end
section
open Go.RowKit
/-- a fact put away: no tactic sees through it (a sum with a great numeral in an open fact, or behind Hid, ends in 'maximum recursion depth') -/
structure Box (p : Prop) : Prop where
 out : p
theorem bel1 (w : World) (o : Obj) : Below w.heap.size w (w.alloc o) := (Below.refl _ _).alloc (Nat.le_refl _) _
theorem bdrew {B : Nat} {w w' : World} (h : Below B w w') (n : Nat) : Below B w (w'.drewN n) := ⟨h.os, h.tape, h.output, h.size, h.block⟩
theorem below_drewN (w : World) (n : Nat) : Below w.heap.size w (w.drewN n) := ⟨rfl, rfl, rfl, Nat.le_refl _, fun _ _ => rfl⟩
theorem bel2 (w : World) (o o' : Obj) : Below w.heap.size w ((w.alloc o).alloc o') := (bel1 w o).alloc (by simp) _
theorem bel3 (w : World) (o o' o'' : Obj) : Below w.heap.size w (((w.alloc o).alloc o').alloc o'') := (bel2 w o o').alloc (by simp; omega) _
theorem bthen {B : Nat} {w w1 w2 : World} (h : Below B w w1) (h2 : Below w1.heap.size w1 w2) (hB : B ≤ w.heap.size) : Below B w w2 := h.trans (h2.mono (Nat.le_trans hB h.size))
/-- block g is just these cells -/
def Blk (w : World) (g : Nat) (t : TypeId) (cs : Array Value) : Prop := w.heap[g]? = some (.cells cs t (0, 0))
theorem Blk.lt {w : World} {g : Nat} {t : TypeId} {cs : Array Value} (h : Blk w g t cs) : g < w.heap.size := by
 rcases Nat.lt_or_ge g w.heap.size with hl | hl
 ·exact hl
 ·unfold Blk at h; rw [Array.getElem?_eq_none hl] at h; cases h
theorem Blk.new (w : World) (cs : Array Value) (t : TypeId) : Blk (w.alloc (.cells cs t)) w.heap.size t cs := heap_alloc_new w _
theorem Blk.newAt {w : World} {k : Nat} (cs : Array Value) (t : TypeId) (h : w.heap.size = k) : Blk (w.alloc (.cells cs t)) k t cs := by subst h; exact Blk.new _ _ _
theorem Blk.below {w w' : World} {g : Nat} {t : TypeId} {cs : Array Value} (h : Blk w g t cs) (hb : Below w.heap.size w w') : Blk w' g t cs := (hb.block g h.lt).trans h
theorem Blk.alloc {w : World} {g : Nat} {t : TypeId} {cs : Array Value} (h : Blk w g t cs) (o : Obj) : Blk (w.alloc o) g t cs := h.below (bel1 _ _)
theorem Blk.drewN {w : World} {g : Nat} {t : TypeId} {cs : Array Value} (h : Blk w g t cs) (n : Nat) : Blk (w.drewN n) g t cs := h
theorem Blk.frozen {w : World} {g : Nat} {t : TypeId} {cs : Array Value} (h : Blk w g t cs) : ∀ o, w.frozen? ⟨g, o, none⟩ = false := by
 intro o; unfold Blk at h; simp [World.frozen?, h]
theorem Blk.set {w : World} {g : Nat} {t : TypeId} {cs : Array Value} (h : Blk w g t cs) (i : Nat) (u : Value) : Blk (w.setCell ⟨g, i, none⟩ u) g t (cs.setIfInBounds i u) := by
 unfold Blk at h ⊢
 simp [World.setCell, Array.getElem?_modify, h]
theorem Blk.far {w : World} {g : Nat} {t : TypeId} {cs : Array Value} (h : Blk w g t cs) {p : Addr} (hp : g ≠ p.block) (u : Value) : Blk (w.setCell p u) g t cs := (Below.heap_setCell w p u g hp).trans h
theorem Blk.c1 {w : World} {b : Nat} {t : TypeId} {v0 : Value} (h : Blk w b t #[v0]) : w.cell? ⟨b, 0, none⟩ = some v0 := by
 unfold Blk at h; simp [World.cell?, h]
theorem Blk.c2 {w : World} {b : Nat} {t : TypeId} {v0 v1 : Value} (h : Blk w b t #[v0, v1]) : w.cell? ⟨b, 0, none⟩ = some v0 ∧ w.cell? ⟨b, 1, none⟩ = some v1 := by
 unfold Blk at h; simp [World.cell?, h]
theorem Blk.c3 {w : World} {b : Nat} {t : TypeId} {v0 v1 v2 : Value} (h : Blk w b t #[v0, v1, v2]) : w.cell? ⟨b, 0, none⟩ = some v0 ∧ w.cell? ⟨b, 1, none⟩ = some v1 ∧ w.cell? ⟨b, 2, none⟩ = some v2 := by
 unfold Blk at h; simp [World.cell?, h]
end
section
open Go.RowKit
/-- 'Around': n modulo most, never negative. -/
def around (n most : Int) : Int := if n < 0 then (-(n + 1)) % most else n % most
theorem around_any (n most : Int) (w : World) (hn1 : -9223372036854775808 ≤ n) (hn2 : n ≤ 9223372036854775807) (h1 : 1 ≤ most) (h2 : most ≤ 9223372036854775807) :
  Calls Tryz.prog 13 #[.int .i64 n, .int .i64 most] w fun e w' => e = .returned (.int .i64 (around n most)) ∧ w = w' := by
 by_cases h : n < 0
 ·have e : around n most = (-(n + 1)) % most := if_pos h
  have e2 : (-(n + 1)).tmod most = (-(n + 1)) % most := Int.tmod_eq_emod_of_nonneg (by omega)
  have E := Lib.hid e; have E2 := Lib.hid e2; clear e e2
  go_enter Tryz.func13, Tryz.ntmps13
  go_wp2
  go_ret
  exact ⟨ret_int (by rw [E.out, ← E2.out, Int.neg_tmod]), rfl⟩
 ·have e : around n most = n % most := if_neg h
  have E := Lib.hid e; clear e
  go_enter Tryz.func13, Tryz.ntmps13
  go_wp2
  go_ret
  exact ⟨ret_int (by rw [E.out]), rfl⟩
theorem around_bd (n most : Int) (h1 : 1 ≤ most) : 0 ≤ around n most ∧ around n most < most := by
 unfold around; split <;> exact ⟨Int.emod_nonneg _ (by omega), Int.emod_lt_of_pos _ (by omega)⟩
def lettB (c : Nat) : Bool := decide (97 ≤ c) && decide (c ≤ 122)
def othB (c : Nat) : Bool := decide (48 ≤ c) && decide (c ≤ 57) || c == 95
/-- a byte that may stand in a name, at the first place or not -/
def nmB (first : Bool) (c : Nat) : Bool := lettB c || (!first && othB c)
def nameB (s : ByteArray) : Bool := decide (1 ≤ s.size) && decide (s.size ≤ 16) && (List.range s.size).all fun i => nmB (i == 0) (s.get! i).toNat
def vlB (c : Nat) : Bool := decide (33 ≤ c) && decide (c ≤ 126) && !(c == 34 || c == 92 || c == 44 || c == 123 || c == 125)
def valueB (s : ByteArray) : Bool := decide (s.size ≤ 16) && (List.range s.size).all fun i => vlB (s.get! i).toNat
theorem get!_of (s : ByteArray) (k : Nat) (h : k < s.size) : s.get! k = s[k] := by
 simp [ByteArray.get!, getElem!_pos, h]; rfl
theorem nameB_true {s : ByteArray} (h1 : 1 ≤ s.size) (h2 : s.size ≤ 16) (h : ∀ j (hj : j < s.size), nmB (j == 0) s[j].toNat = true) : nameB s = true := by
 unfold nameB
 rw [decide_eq_true h1, decide_eq_true h2]
 simp only [Bool.and_self, Bool.true_and, List.all_eq_true, List.mem_range]
 intro j hj
 rw [get!_of s j hj]; exact h j hj
theorem nameB_false {s : ByteArray} (k : Nat) (hk : k < s.size) (h : nmB (k == 0) s[k].toNat = false) : nameB s = false := by
 unfold nameB
 rw [Bool.and_eq_false_iff]
 right
 rw [List.all_eq_false]
 exact ⟨k, List.mem_range.2 hk, by rw [get!_of s k hk, h]; simp⟩
theorem nameB_short {s : ByteArray} (h : s.size < 1 ∨ 16 < s.size) : nameB s = false := by
 unfold nameB
 rcases h with h | h
 ·rw [decide_eq_false (by omega)]; simp
 ·rw [decide_eq_false (p := s.size ≤ 16) (by omega)]; simp
theorem valueB_true {s : ByteArray} (h2 : s.size ≤ 16) (h : ∀ j (hj : j < s.size), vlB s[j].toNat = true) : valueB s = true := by
 unfold valueB
 rw [decide_eq_true h2]
 simp only [Bool.and_self, Bool.true_and, List.all_eq_true, List.mem_range]
 intro j hj
 rw [get!_of s j hj]; exact h j hj
theorem valueB_false {s : ByteArray} (k : Nat) (hk : k < s.size) (h : vlB s[k].toNat = false) : valueB s = false := by
 unfold valueB
 rw [Bool.and_eq_false_iff]
 right
 rw [List.all_eq_false]
 exact ⟨k, List.mem_range.2 hk, by rw [get!_of s k hk, h]; simp⟩
theorem valueB_long {s : ByteArray} (h : 16 < s.size) : valueB s = false := by
 unfold valueB
 rw [decide_eq_false (by omega)]; simp
theorem nm_1 (f : Bool) {c : Nat} (h : lettB c = true) : nmB f c = true := by simp [nmB, h]
theorem nm_2 {c : Nat} (h : lettB c = false) : nmB ((0 : Nat) == 0) c = false := by simp [nmB, h]
theorem nm_3 {k c : Nat} (hk : ¬ k = 0) (h : othB c = true) : nmB (k == 0) c = true := by simp [nmB, h, hk]
theorem nm_4 {f : Bool} {c : Nat} (h : lettB c = false) (h' : othB c = false) : nmB f c = false := by simp [nmB, h, h']
theorem name_next {s : ByteArray} {k : Nat} {hk : k < s.size} (h : ∀ j (hj : j < s.size), j < k → nmB (j == 0) s[j].toNat = true) (h' : nmB (k == 0) s[k].toNat = true) :
  Hid (∀ j (hj : j < s.size), j < k + 1 → nmB (j == 0) s[j].toNat = true) := by
 intro j hj hlt
 rcases Nat.lt_or_ge j k with h1 | h1
 ·exact h j hj h1
 ·obtain rfl : j = k := by omega
  exact h'
theorem oth_cases (c : Nat) : (48 ≤ c ∧ c ≤ 57 ∧ othB c = true) ∨ (48 ≤ c ∧ 57 < c ∧ ((c : Int) == 95) = true ∧ othB c = true) ∨ (((c : Int) == 95) = false ∧ othB c = false ∧ (c < 48 ∨ 57 < c)) := by
 by_cases h1 : 48 ≤ c ∧ c ≤ 57
 ·exact .inl ⟨h1.1, h1.2, by simp [othB, h1]⟩
 by_cases h2 : c = 95
 ·subst h2; exact .inr (.inl ⟨by omega, by omega, by simp, by simp [othB]⟩)
 ·refine .inr (.inr ⟨?_, ?_, by omega⟩)
  ·simp; omega
  ·simp [othB, h2]; omega
end
end Go.Proofs.YtkdojgkiclndfaaGreatDoor
