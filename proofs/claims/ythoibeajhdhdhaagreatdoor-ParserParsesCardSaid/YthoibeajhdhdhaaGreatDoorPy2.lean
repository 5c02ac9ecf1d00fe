/- Contracts, packed: Base Bk Ka Ya Kb Fm Str Qf. -/
import Derived.Test.YthoibeajhdhdhaaGreatDoorRows
import Derived.WalkKit
import Derived.WalkSpells
import Derived.WalkLawsBesides
import Derived.Outline
import Derived.Lib.Hide
import Derived.Deep.Draws
import Derived.Deep.QuietTactic
import Derived.BigQuiet
import Derived.Deep.LoopGhost
import Derived.Lib.OthersKept
import Derived.Lib.Bytealg
import Derived.Deep.RegionHeld3
import Derived.Deep.DeepCutAuto
import Derived.RangeFuncNested
import Derived.RangeFuncBound
import Derived.RangeFuncCalls
import Derived.RangeFuncLeaves
import Derived.RangeFuncFrom
import Derived.RangeFuncKeeps
import Derived.Shelf.Abstract
import Derived.Shelf.RegionOpen
import Derived.OwnWalkIn
import Derived.TacticsInMore
import Derived.LoopNIn
import Derived.LoopIn
import Derived.RegionTactic
import Derived.ChangeAlike
set_option linter.unusedVariables false
set_option linter.unusedSimpArgs false

namespace FracM

theorem gcd_mod_left (t g : Nat) : Nat.gcd (t % g) g = Nat.gcd t g := by
 rw [Nat.gcd_comm t g, Nat.gcd_rec g t]
/-- 2^62 -/
def M : Nat := 4611686018427387904
/-- p over q in lowest terms, with an error: 5 beyond the range -/
def low (p : Int) (q : Nat) : Int × Int × Int :=
 if p.natAbs / Nat.gcd p.natAbs q ≤ M ∧ q / Nat.gcd p.natAbs q ≤ M then
  (p.sign * ((p.natAbs / Nat.gcd p.natAbs q : Nat) : Int), ((q / Nat.gcd p.natAbs q : Nat) : Int), 0)
 else (0, 0, 5)
def validB (n d : Int) : Bool := decide (1 ≤ d) && decide (d ≤ M) && decide (n.natAbs ≤ M) && (Nat.gcd n.natAbs d.natAbs == 1)
theorem valid_iff {n d : Int} : validB n d = true ↔ 1 ≤ d ∧ d ≤ M ∧ n.natAbs ≤ M ∧ Nat.gcd n.natAbs d.natAbs = 1 := by
 unfold validB; simp [Bool.and_eq_true, and_assoc]
end FracM

namespace Go.Proofs.YthoibeajhdhdhaaGreatDoor
section
open Go.RowKit
theorem ret_int {k : IntKind} {a b : Int} (h : a = b) : Ending.returned (.int k a) = .returned (.int k b) := by rw [h]
theorem ret_bool {a b : Bool} (h : a = b) : Ending.returned (.bool a) = .returned (.bool b) := by rw [h]
theorem ret_str {a b : ByteArray} (h : a = b) : Ending.returned (.string a) = .returned (.string b) := by rw [h]
/-- Block k is old (below base) or bears the element type t. -/
def Fit (w : World) (base : Nat) (t : TypeId) (k : Nat) : Prop := k < w.heap.size ∧ (k < base ∨ ∃ cs fz, w.heap[k]? = some (.cells cs t fz))
/-- From w to w' only blocks from base on, of the types in T, have turned. -/
structure Fr (base : Nat) (T : List TypeId) (w w' : World) : Prop where
 os : w'.os = w.os
 tape : w'.tape = w.tape
 output : w'.output = w.output
 size : w.heap.size ≤ w'.heap.size
 block : ∀ k, k < w.heap.size → (k < base ∨ ∃ cs t fz, w.heap[k]? = some (.cells cs t fz) ∧ t ∉ T) → w'.heap[k]? = w.heap[k]?
theorem Fr.of_below {base : Nat} {T : List TypeId} {w w' : World} (h : Below w.heap.size w w') : Fr base T w w' :=
 ⟨h.os, h.tape, h.output, h.size, fun k hk _ => h.block k hk⟩
theorem Fr.trans {base : Nat} {T : List TypeId} {a b c : World} (h : Fr base T a b) (k : Fr base T b c) : Fr base T a c :=
 ⟨k.os.trans h.os, k.tape.trans h.tape, k.output.trans h.output, Nat.le_trans h.size k.size, fun i hi hc => by
  have e := h.block i hi hc
  rw [k.block i (Nat.lt_of_lt_of_le hi h.size) (by rw [e]; exact hc), e]⟩
theorem Fit.keep {base : Nat} {T : List TypeId} {w w' : World} {t : TypeId} {k : Nat} (h : Fit w base t k) (f : Fr base T w w') (ht : t ∉ T) : Fit w' base t k ∧ w'.heap[k]? = w.heap[k]? := by
 have e := f.block k h.1 (by
  rcases h.2 with h | ⟨cs, fz, h⟩
  ·exact .inl h
  ·exact .inr ⟨cs, t, fz, h, ht⟩)
 exact ⟨⟨Nat.lt_of_lt_of_le h.1 f.size, by rw [e]; exact h.2⟩, e⟩
/-- The slice value v has n elements of 'size' cells each, which are the cells xs. -/
def Seq (w : World) (base : Nat) (t : TypeId) (size : Nat) (v : Value) (n : Nat) (xs : List Value) : Prop :=
 xs.length = n * size ∧ ∃ A c, v = .slice A n c ∧ n ≤ c ∧ c ≤ maxLen ∧
  (0 < n → ∃ b off, A = some ⟨b, off, none⟩ ∧ Fit w base t b ∧ ∀ j u, xs[j]? = some u → w.cell? ⟨b, off + j, none⟩ = some u)
theorem Seq.keep {base : Nat} {T : List TypeId} {w w' : World} {t size n : Nat} {v : Value} {xs : List Value} (h : Seq w base t size v n xs) (f : Fr base T w w') (ht : t ∉ T) : Seq w' base t size v n xs := by
 obtain ⟨h1, A, c, hv, hn, hc, h2⟩ := h
 refine ⟨h1, A, c, hv, hn, hc, fun h0 => ?_⟩
 obtain ⟨b, off, hA, hf, hx⟩ := h2 h0
 obtain ⟨hf', e⟩ := hf.keep f ht
 exact ⟨b, off, hA, hf', fun j u hu => (World.cell?_of_block (a := ⟨b, off + j, none⟩) e).trans (hx j u hu)⟩
theorem Seq.below {base : Nat} {w w' : World} {t size n : Nat} {v : Value} {xs : List Value} (h : Seq w base t size v n xs) (f : Below w.heap.size w w') : Seq w' base t size v n xs :=
 h.keep (Fr.of_below (base := base) (T := []) f) (by simp)
theorem Seq.nil (w : World) (base : Nat) (t : TypeId) (size : Nat) : Seq w base t size (.slice none 0 0) 0 [] :=
 ⟨by simp, none, 0, rfl, Nat.le_refl _, by unfold maxLen; omega, fun h => absurd h (by omega)⟩
theorem Seq.of_own {w : World} {base : Nat} {t size n : Nat} {v : Value} {xs : List Value} {base' : Nat} (h : w.ownsRow base t size v n xs) : Seq w base' t size v n xs := by
 obtain ⟨h1, h2⟩ := h
 refine ⟨h1, ?_⟩
 rcases h2 with ⟨rfl, rfl⟩ | ⟨g, cap, cur, rfl, hg, hh, hn, hc, hs, hx⟩
 ·exact ⟨none, 0, rfl, Nat.le_refl _, by unfold maxLen; omega, fun h => absurd h (by omega)⟩
 ·refine ⟨_, _, rfl, hn, hc, fun h0 => ⟨g, 0, rfl, ⟨?_, .inr ⟨cur, _, hh⟩⟩, fun j u hu => ?_⟩⟩
  ·rcases Nat.lt_or_ge g w.heap.size with hlt | hge
   ·exact hlt
   ·rw [Array.getElem?_eq_none hge] at hh; cases hh
  ·rw [← hx] at hu
   rw [List.getElem?_take] at hu
   split at hu
   ·simp [World.cell?, hh]; simpa using hu
   ·cases hu
theorem bcell {W w1 : World} (hb : Below W.heap.size W w1) : (∀ b o, b < W.heap.size → w1.cell? ⟨b, o, none⟩ = W.cell? ⟨b, o, none⟩) ∧ (∀ b o, b < W.heap.size → w1.frozen? ⟨b, o, none⟩ = W.frozen? ⟨b, o, none⟩) :=
 ⟨fun b o h => hb.cell (p := ⟨b, o, none⟩) h, fun b o h => hb.frozen (p := ⟨b, o, none⟩) h⟩
/-- a cell of an old block reads as it did -/
theorem bat {W w1 : World} {b o : Nat} {v : Value} (hb : Below W.heap.size W w1) (h : b < W.heap.size) (hc : W.cell? ⟨b, o, none⟩ = some v) : w1.cell? ⟨b, o, none⟩ = some v :=
 (hb.cell (p := ⟨b, o, none⟩) h).trans hc
end
section
open Go.RowKit
/-- a fact put away: no tactic sees through it (a sum with a great numeral in an open fact, or behind Hid, ends in 'maximum recursion depth') -/
structure Box (p : Prop) : Prop where
 out : p
theorem bel1 (w : World) (o : Obj) : Below w.heap.size w (w.alloc o) := (Below.refl _ _).alloc (Nat.le_refl _) _
theorem bdrew {B : Nat} {w w' : World} (h : Below B w w') (n : Nat) : Below B w (w'.drewN n) := ⟨h.os, h.tape, h.output, h.size, h.block⟩
theorem below_drewN (w : World) (n : Nat) : Below w.heap.size w (w.drewN n) := ⟨rfl, rfl, rfl, Nat.le_refl _, fun _ _ => rfl⟩
theorem bel2 (w : World) (o o' : Obj) : Below w.heap.size w ((w.alloc o).alloc o') := (bel1 w o).alloc (by simp) _
theorem bel3 (w : World) (o o' o'' : Obj) : Below w.heap.size w (((w.alloc o).alloc o').alloc o'') := (bel2 w o o').alloc (by simp; omega) _
theorem bthen {B : Nat} {w w1 w2 : World} (h : Below B w w1) (h2 : Below w1.heap.size w1 w2) (hB : B ≤ w.heap.size) : Below B w w2 := h.trans (h2.mono (Nat.le_trans hB h.size))
/-- block g is just these cells -/
def Blk (w : World) (g : Nat) (t : TypeId) (cs : Array Value) : Prop := w.heap[g]? = some (.cells cs t (0, 0))
theorem Blk.lt {w : World} {g : Nat} {t : TypeId} {cs : Array Value} (h : Blk w g t cs) : g < w.heap.size := by
 rcases Nat.lt_or_ge g w.heap.size with hl | hl
 ·exact hl
 ·unfold Blk at h; rw [Array.getElem?_eq_none hl] at h; cases h
theorem Blk.new (w : World) (cs : Array Value) (t : TypeId) : Blk (w.alloc (.cells cs t)) w.heap.size t cs := heap_alloc_new w _
theorem Blk.newAt {w : World} {k : Nat} (cs : Array Value) (t : TypeId) (h : w.heap.size = k) : Blk (w.alloc (.cells cs t)) k t cs := by subst h; exact Blk.new _ _ _
theorem Blk.below {w w' : World} {g : Nat} {t : TypeId} {cs : Array Value} (h : Blk w g t cs) (hb : Below w.heap.size w w') : Blk w' g t cs := (hb.block g h.lt).trans h
theorem Blk.alloc {w : World} {g : Nat} {t : TypeId} {cs : Array Value} (h : Blk w g t cs) (o : Obj) : Blk (w.alloc o) g t cs := h.below (bel1 _ _)
theorem Blk.drewN {w : World} {g : Nat} {t : TypeId} {cs : Array Value} (h : Blk w g t cs) (n : Nat) : Blk (w.drewN n) g t cs := h
theorem Blk.frozen {w : World} {g : Nat} {t : TypeId} {cs : Array Value} (h : Blk w g t cs) : ∀ o, w.frozen? ⟨g, o, none⟩ = false := by
 intro o; unfold Blk at h; simp [World.frozen?, h]
theorem Blk.set {w : World} {g : Nat} {t : TypeId} {cs : Array Value} (h : Blk w g t cs) (i : Nat) (u : Value) : Blk (w.setCell ⟨g, i, none⟩ u) g t (cs.setIfInBounds i u) := by
 unfold Blk at h ⊢
 simp [World.setCell, Array.getElem?_modify, h]
theorem Blk.far {w : World} {g : Nat} {t : TypeId} {cs : Array Value} (h : Blk w g t cs) {p : Addr} (hp : g ≠ p.block) (u : Value) : Blk (w.setCell p u) g t cs := (Below.heap_setCell w p u g hp).trans h
theorem Blk.c1 {w : World} {b : Nat} {t : TypeId} {v0 : Value} (h : Blk w b t #[v0]) : w.cell? ⟨b, 0, none⟩ = some v0 := by
 unfold Blk at h; simp [World.cell?, h]
theorem Blk.c2 {w : World} {b : Nat} {t : TypeId} {v0 v1 : Value} (h : Blk w b t #[v0, v1]) : w.cell? ⟨b, 0, none⟩ = some v0 ∧ w.cell? ⟨b, 1, none⟩ = some v1 := by
 unfold Blk at h; simp [World.cell?, h]
theorem Blk.c3 {w : World} {b : Nat} {t : TypeId} {v0 v1 v2 : Value} (h : Blk w b t #[v0, v1, v2]) : w.cell? ⟨b, 0, none⟩ = some v0 ∧ w.cell? ⟨b, 1, none⟩ = some v1 ∧ w.cell? ⟨b, 2, none⟩ = some v2 := by
 unfold Blk at h; simp [World.cell?, h]
end
section
open Go.RowKit
def bsL (l : List UInt8) : ByteArray := ⟨l.toArray⟩
/-- a token: its kind, text, number and offset -/
structure Tok where
 kind : Int
 text : List UInt8
 n : Int
 off : Nat
def letB (c : UInt8) : Bool := decide (97 ≤ c.toNat) && decide (c.toNat ≤ 122)
def digB (c : UInt8) : Bool := decide (48 ≤ c.toNat) && decide (c.toNat ≤ 57)
def wrdB (c : UInt8) : Bool := letB c || digB c || c.toNat == 95
def spcB (c : UInt8) : Bool := c.toNat == 9 || c.toNat == 10 || c.toNat == 13 || c.toNat == 32
def txtB (c : UInt8) : Bool := decide (33 ≤ c.toNat) && decide (c.toNat ≤ 126) && c.toNat != 92 && c.toNat != 44 && c.toNat != 123 && c.toNat != 125
/-- the number that a list of digits adds to another one, up to the bound -/
def numV : Int → List UInt8 → Int
 | n, [] => n
 | n, c :: r => if n ≤ 1073741824 then numV (n * 10 + ((c.toNat : Int) - 48)) r else n
def symN : List UInt8 → Nat
 | [] => 0
 | c :: r =>
  if c.toNat = 43 ∨ c.toNat = 45 ∨ c.toNat = 42 ∨ c.toNat = 47 ∨ c.toNat = 40 ∨ c.toNat = 41 ∨ c.toNat = 123 ∨ c.toNat = 125 ∨ c.toNat = 44 ∨ c.toNat = 46 ∨ c.toNat = 64 ∨ c.toNat = 61 then 1
  else if (c.toNat = 33 ∨ c.toNat = 94) ∧ (r.head?.map UInt8.toNat) = some 61 then 2 else 0
/-- the error, the token at the head of a list (the offset is i), and how many bytes it takes -/
def tokW (i : Nat) (r : List UInt8) : Int × Tok × Nat :=
 (if 16 < (r.takeWhile wrdB).length then 4 else 0, ⟨0, r.takeWhile wrdB, 0, i⟩, (r.takeWhile wrdB).length)
def tokN (i : Nat) (r : List UInt8) : Int × Tok × Nat :=
 (if 1073741824 < numV 0 (r.takeWhile digB) then 5 else 0, ⟨1, r.takeWhile digB, numV 0 (r.takeWhile digB), i⟩, (r.takeWhile digB).length)
def tokT (i : Nat) (r : List UInt8) : Int × Tok × Nat :=
 if Lib.indexByte r.tail 34 < 0 then (2, ⟨0, [], 0, 0⟩, 2)
 else if (r.tail.take (Lib.indexByte r.tail 34).toNat).all txtB then
  (if 16 < Lib.indexByte r.tail 34 then 4 else 0, ⟨2, r.tail.take (Lib.indexByte r.tail 34).toNat, 0, i⟩, (Lib.indexByte r.tail 34).toNat + 2)
 else (2, ⟨0, [], 0, 0⟩, 2)
def tokS (i : Nat) (r : List UInt8) : Int × Tok × Nat :=
 (if symN r = 0 then 2 else 0, ⟨3, r.take (symN r), 0, i⟩, symN r)
def tokM (i : Nat) (c : UInt8) (r : List UInt8) : Int × Tok × Nat :=
 if letB c then tokW i (c :: r) else if digB c then tokN i (c :: r) else if c.toNat = 34 then tokT i (c :: r) else tokS i (c :: r)
/-- the tokens of a list, whose first byte has the offset i; the error; the offset of the end or of the error -/
def lexM : Nat → Nat → List UInt8 → List Tok × Int × Nat
 | 0, i, _ => ([], 0, i)
 | _ + 1, i, [] => ([], 0, i)
 | n + 1, i, c :: r =>
  if spcB c then lexM n (i + 1) r
  else if (tokM i c r).1 = 0 then ((tokM i c r).2.1 :: (lexM n (i + (tokM i c r).2.2) ((c :: r).drop (tokM i c r).2.2)).1, (lexM n (i + (tokM i c r).2.2) ((c :: r).drop (tokM i c r).2.2)).2)
  else ([], (tokM i c r).1, i)
theorem digB_iff (c : UInt8) : digB c = true ↔ 48 ≤ c.toNat ∧ c.toNat ≤ 57 := by unfold digB; simp
theorem tw_pos {f : UInt8 → Bool} {c : UInt8} {r : List UInt8} (h : f c = true) : 0 < ((c :: r).takeWhile f).length := by rw [List.takeWhile_cons, h]; simp
theorem tok_pos {i : Nat} {c : UInt8} {r : List UInt8} (h : (tokM i c r).1 = 0) : 1 ≤ (tokM i c r).2.2 := by
 unfold tokM at *
 by_cases h1 : letB c
 ·rw [if_pos h1]; exact tw_pos (by unfold wrdB; rw [h1]; rfl)
 rw [if_neg h1] at h ⊢
 by_cases h2 : digB c
 ·rw [if_pos h2]; exact tw_pos h2
 rw [if_neg h2] at h ⊢
 by_cases h3 : c.toNat = 34
 ·rw [if_pos h3] at h ⊢
  unfold tokT at *
  split
  ·simp
  ·split <;> simp
 rw [if_neg h3] at h ⊢
 unfold tokS at *
 simp only at h ⊢
 by_cases h4 : symN (c :: r) = 0
 ·rw [if_pos h4] at h; exact absurd h (by decide)
 ·omega
theorem ixb_lt : ∀ (l : List UInt8) (c : UInt8), -1 ≤ Lib.indexByte l c ∧ Lib.indexByte l c < l.length
 | [], c => by unfold Lib.indexByte; exact ⟨by omega, by simp⟩
 | b :: l, c => by
  obtain ⟨h1, h2⟩ := ixb_lt l c
  unfold Lib.indexByte
  split
  ·exact ⟨by omega, by simp⟩
  ·split
   ·exact ⟨by omega, by simp; omega⟩
   ·exact ⟨by omega, by simp; omega⟩
theorem symN_le (l : List UInt8) : symN l ≤ l.length := by
 cases l with
 | nil => simp [symN]
 | cons c r =>
  rw [symN]
  split
  ·simp
  ·split
   ·rename_i h
    cases r with
    | nil => simp at h
    | cons d r => simp
   ·simp
theorem tokW_f (i : Nat) (l : List UInt8) : (tokW i l).2.1.text.length = (tokW i l).2.2 ∧ (tokW i l).2.2 ≤ l.length := ⟨rfl, (List.takeWhile_prefix _).length_le⟩
theorem tokN_f (i : Nat) (l : List UInt8) : (tokN i l).2.1.text.length = (tokN i l).2.2 ∧ (tokN i l).2.2 ≤ l.length := ⟨rfl, (List.takeWhile_prefix _).length_le⟩
theorem tokS_f (i : Nat) (l : List UInt8) : (tokS i l).2.1.text.length = (tokS i l).2.2 ∧ (tokS i l).2.2 ≤ l.length := by
 have := symN_le l
 unfold tokS
 exact ⟨by simp only [List.length_take]; omega, this⟩
theorem tokT_f {i : Nat} {l : List UInt8} (h : (tokT i l).1 = 0) (hl : l ≠ []) : 2 + (tokT i l).2.1.text.length = (tokT i l).2.2 ∧ (tokT i l).2.2 ≤ l.length := by
 have hx := ixb_lt l.tail 34
 have hp : 0 < l.length := List.length_pos_iff.2 hl
 rw [List.length_tail] at hx
 unfold tokT at *
 split
 ·rename_i h1; rw [if_pos h1] at h; simp at h
 ·rename_i h1
  rw [if_neg h1] at h
  split
  ·simp only [List.length_take, List.length_tail]; omega
  ·rename_i h2; rw [if_neg h2] at h; simp at h
/-- more turns do not matter -/
theorem lexM_more : ∀ (n m i : Nat) (l : List UInt8), l.length ≤ n → l.length ≤ m → lexM n i l = lexM m i l := by
 intro n
 induction n with
 | zero => intro m i l h1 h2; obtain rfl := List.eq_nil_of_length_eq_zero (by omega : l.length = 0); cases m <;> simp [lexM]
 | succ n ih =>
  intro m i l h1 h2
  cases l with
  | nil => cases m <;> simp [lexM]
  | cons c r =>
   simp only [List.length_cons] at h1 h2
   obtain ⟨m, rfl⟩ : ∃ k, m = k + 1 := ⟨m - 1, by omega⟩
   rw [lexM, lexM]
   by_cases hs : spcB c
   ·rw [if_pos hs, if_pos hs]; exact ih m _ _ (by omega) (by omega)
   rw [if_neg hs, if_neg hs]
   by_cases he : (tokM i c r).1 = 0
   ·have hp := tok_pos he
    rw [if_pos he, if_pos he, ih m _ _ (by simp; omega) (by simp; omega)]
   ·rw [if_neg he, if_neg he]
end
section
open Go.RowKit
def W64 (x : Int) : Int := IntKind.i64.wrap x
theorem W64_eq (x : Int) : W64 x = (x + 9223372036854775808) % 18446744073709551616 - 9223372036854775808 := by
 simp [W64, IntKind.wrap, IntKind.bits, IntKind.signed]; omega
theorem W64_in {x : Int} (h1 : -9223372036854775808 ≤ x) (h2 : x ≤ 9223372036854775807) : W64 x = x := by rw [W64_eq]; omega
end
section
open Go.RowKit Go.Shelf
/-- what may happen in the iterator between two rounds: of the old blocks q alone turns, and q holds cells -/
structure Wr (q : Nat) (A B : World) : Prop where
 ko : KeepsOthers A B
 os : B.os = A.os
 tape : B.tape = A.tape
 output : B.output = A.output
 block : ∀ k, k < A.heap.size → k ≠ q → B.heap[k]? = A.heap[k]?
theorem Wr.refl (q : Nat) (A : World) : Wr q A A := ⟨KeepsOthers.refl _, rfl, rfl, rfl, fun _ _ _ => rfl⟩
theorem Wr.trans {q : Nat} {A B C : World} (h : Wr q A B) (k : Wr q B C) : Wr q A C := ⟨h.ko.trans k.ko, k.os.trans h.os, k.tape.trans h.tape, k.output.trans h.output, fun i hi hn => (k.block i (Nat.lt_of_lt_of_le hi h.ko.size) hn).trans (h.block i hi hn)⟩
/-- what a loop's caller must bear between two of its rounds: below n nothing but q turns; blocks of cells but q lie as they lay -/
structure Wq (n q : Nat) (A B : World) : Prop where
 size : A.heap.size ≤ B.heap.size
 os : B.os = A.os
 tape : B.tape = A.tape
 output : B.output = A.output
 low : ∀ k, k < n → k ≠ q → B.heap[k]? = A.heap[k]?
 cells : ∀ k o, A.heap[k]? = some o → o.isCells = true → k ≠ q → B.heap[k]? = some o
theorem Wq.trans {n q : Nat} {A B C : World} (h : Wq n q A B) (k : Wq n q B C) : Wq n q A C :=
 ⟨Nat.le_trans h.size k.size, k.os.trans h.os, k.tape.trans h.tape, k.output.trans h.output, fun i hi hn => (k.low i hi hn).trans (h.low i hi hn), fun i o ho hc hn => k.cells i o (h.cells i o ho hc hn) hc hn⟩
theorem Wr.wq {q : Nat} {A B : World} (h : Wr q A B) {n : Nat} (hn : n ≤ A.heap.size) : Wq n q A B :=
 ⟨h.ko.size, h.os, h.tape, h.output, fun k hk hq => h.block k (by omega) hq, fun k o ho _ hq => (h.block k (Array.getElem?_eq_some_iff.1 ho).1 hq).trans ho⟩
theorem Wq.put (n q : Nat) (A : World) (l : Nat) (o o' : Obj) (hl : n ≤ l) (h : A.heap[l]? = some o) (ho : o.isCells = false) : Wq n q A (A.putObj l o') := by
 have hg := grownBy_putObj' A l o'
 refine ⟨hg.size, hg.os, hg.tape, hg.output, fun k hk _ => World.putObj_heap_other (by omega), fun k u hu hc _ => ?_⟩
 have : k ≠ l := fun e => by subst e; rw [h] at hu; cases hu; rw [ho] at hc; cases hc
 exact (World.putObj_heap_other this).trans hu
theorem Wq.alloc (n q : Nat) (A : World) (o : Obj) (hn : n ≤ A.heap.size) : Wq n q A (A.alloc o) :=
 ⟨by simp, rfl, rfl, rfl, fun k hk _ => Below.heap_alloc A o k (by omega), fun k u hu _ _ => (Below.heap_alloc A o k (Array.getElem?_eq_some_iff.1 hu).1).trans hu⟩
end
section
open Go.RowKit
/-- 'Around': n modulo most, never negative. -/
def around (n most : Int) : Int := if n < 0 then (-(n + 1)) % most else n % most
theorem around_any (n most : Int) (w : World) (hn1 : -9223372036854775808 ≤ n) (hn2 : n ≤ 9223372036854775807) (h1 : 1 ≤ most) (h2 : most ≤ 9223372036854775807) :
  Calls Tryz.prog 18 #[.int .i64 n, .int .i64 most] w fun e w' => e = .returned (.int .i64 (around n most)) ∧ w = w' := by
 by_cases h : n < 0
 ·have e : around n most = (-(n + 1)) % most := if_pos h
  have e2 : (-(n + 1)).tmod most = (-(n + 1)) % most := Int.tmod_eq_emod_of_nonneg (by omega)
  have E := Lib.hid e; have E2 := Lib.hid e2; clear e e2
  go_enter Tryz.func18, Tryz.ntmps18
  go_wp2
  go_ret
  exact ⟨ret_int (by rw [E.out, ← E2.out, Int.neg_tmod]), rfl⟩
 ·have e : around n most = n % most := if_neg h
  have E := Lib.hid e; clear e
  go_enter Tryz.func18, Tryz.ntmps18
  go_wp2
  go_ret
  exact ⟨ret_int (by rw [E.out]), rfl⟩
theorem around_bd (n most : Int) (h1 : 1 ≤ most) : 0 ≤ around n most ∧ around n most < most := by
 unfold around; split <;> exact ⟨Int.emod_nonneg _ (by omega), Int.emod_lt_of_pos _ (by omega)⟩
/-- 'Short': the first bytes of a string. -/
def short (s : ByteArray) (most : Nat) : ByteArray := if most < s.size then s.extract 0 most else s
theorem short_any (s : ByteArray) (most : Nat) (w : World) (hs : s.size ≤ maxLen) (h1 : most ≤ 1000) :
  Calls Tryz.prog 17 #[.string s, .int .i64 most] w fun e w' => e = .returned (.string (short s most)) ∧ w = w' := by
 unfold maxLen at hs
 by_cases h : most < s.size
 ·have e : short s most = s.extract 0 most := if_pos h
  have E := Lib.hid e; clear e
  go_enter Tryz.func17, Tryz.ntmps17
  go_wp2
  go_ret
  exact ⟨ret_str (by rw [E.out]), rfl⟩
 ·have e : short s most = s := if_neg h
  have E := Lib.hid e; clear e
  go_enter Tryz.func17, Tryz.ntmps17
  go_wp2
  go_ret
  exact ⟨ret_str (by rw [E.out]), rfl⟩
theorem short_size (s : ByteArray) (most : Nat) : (short s most).size ≤ most := by
 unfold short; split
 ·simp [ByteArray.size_extract]; omega
 ·omega
def lettB (c : Nat) : Bool := decide (97 ≤ c) && decide (c ≤ 122)
def othB (c : Nat) : Bool := decide (48 ≤ c) && decide (c ≤ 57) || c == 95
/-- a byte that may stand in a name, at the first place or not -/
def nmB (first : Bool) (c : Nat) : Bool := lettB c || (!first && othB c)
def nameB (s : ByteArray) : Bool := decide (1 ≤ s.size) && decide (s.size ≤ 16) && (List.range s.size).all fun i => nmB (i == 0) (s.get! i).toNat
def vlB (c : Nat) : Bool := decide (33 ≤ c) && decide (c ≤ 126) && !(c == 34 || c == 92 || c == 44 || c == 123 || c == 125)
def valueB (s : ByteArray) : Bool := decide (s.size ≤ 16) && (List.range s.size).all fun i => vlB (s.get! i).toNat
theorem get!_of (s : ByteArray) (k : Nat) (h : k < s.size) : s.get! k = s[k] := by
 simp [ByteArray.get!, getElem!_pos, h]; rfl
theorem nameB_true {s : ByteArray} (h1 : 1 ≤ s.size) (h2 : s.size ≤ 16) (h : ∀ j (hj : j < s.size), nmB (j == 0) s[j].toNat = true) : nameB s = true := by
 unfold nameB
 rw [decide_eq_true h1, decide_eq_true h2]
 simp only [Bool.and_self, Bool.true_and, List.all_eq_true, List.mem_range]
 intro j hj
 rw [get!_of s j hj]; exact h j hj
theorem nameB_false {s : ByteArray} (k : Nat) (hk : k < s.size) (h : nmB (k == 0) s[k].toNat = false) : nameB s = false := by
 unfold nameB
 rw [Bool.and_eq_false_iff]
 right
 rw [List.all_eq_false]
 exact ⟨k, List.mem_range.2 hk, by rw [get!_of s k hk, h]; simp⟩
theorem nameB_short {s : ByteArray} (h : s.size < 1 ∨ 16 < s.size) : nameB s = false := by
 unfold nameB
 rcases h with h | h
 ·rw [decide_eq_false (by omega)]; simp
 ·rw [decide_eq_false (p := s.size ≤ 16) (by omega)]; simp
theorem valueB_true {s : ByteArray} (h2 : s.size ≤ 16) (h : ∀ j (hj : j < s.size), vlB s[j].toNat = true) : valueB s = true := by
 unfold valueB
 rw [decide_eq_true h2]
 simp only [Bool.and_self, Bool.true_and, List.all_eq_true, List.mem_range]
 intro j hj
 rw [get!_of s j hj]; exact h j hj
theorem valueB_false {s : ByteArray} (k : Nat) (hk : k < s.size) (h : vlB s[k].toNat = false) : valueB s = false := by
 unfold valueB
 rw [Bool.and_eq_false_iff]
 right
 rw [List.all_eq_false]
 exact ⟨k, List.mem_range.2 hk, by rw [get!_of s k hk, h]; simp⟩
theorem valueB_long {s : ByteArray} (h : 16 < s.size) : valueB s = false := by
 unfold valueB
 rw [decide_eq_false (by omega)]; simp
theorem nm_1 (f : Bool) {c : Nat} (h : lettB c = true) : nmB f c = true := by simp [nmB, h]
theorem nm_2 {c : Nat} (h : lettB c = false) : nmB ((0 : Nat) == 0) c = false := by simp [nmB, h]
theorem nm_3 {k c : Nat} (hk : ¬ k = 0) (h : othB c = true) : nmB (k == 0) c = true := by simp [nmB, h, hk]
theorem nm_4 {f : Bool} {c : Nat} (h : lettB c = false) (h' : othB c = false) : nmB f c = false := by simp [nmB, h, h']
theorem name_next {s : ByteArray} {k : Nat} {hk : k < s.size} (h : ∀ j (hj : j < s.size), j < k → nmB (j == 0) s[j].toNat = true) (h' : nmB (k == 0) s[k].toNat = true) :
  Hid (∀ j (hj : j < s.size), j < k + 1 → nmB (j == 0) s[j].toNat = true) := by
 intro j hj hlt
 rcases Nat.lt_or_ge j k with h1 | h1
 ·exact h j hj h1
 ·obtain rfl : j = k := by omega
  exact h'
theorem oth_cases (c : Nat) : (48 ≤ c ∧ c ≤ 57 ∧ othB c = true) ∨ (48 ≤ c ∧ 57 < c ∧ ((c : Int) == 95) = true ∧ othB c = true) ∨ (((c : Int) == 95) = false ∧ othB c = false ∧ (c < 48 ∨ 57 < c)) := by
 by_cases h1 : 48 ≤ c ∧ c ≤ 57
 ·exact .inl ⟨h1.1, h1.2, by simp [othB, h1]⟩
 by_cases h2 : c = 95
 ·subst h2; exact .inr (.inl ⟨by omega, by omega, by simp, by simp [othB]⟩)
 ·refine .inr (.inr ⟨?_, ?_, by omega⟩)
  ·simp; omega
  ·simp [othB, h2]; omega
end
section
open Go.RowKit FracM
/-- the call computes v and moves no more than the count of draws -/
def Quiet (v : Value) (w : World) (e : Ending) (w' : World) : Prop := e = .returned v ∧ ∃ n, w' = w.drewN n
theorem abs_any (n : Int) (w : World) (h1 : -9223372036854775807 ≤ n) (h2 : n ≤ 9223372036854775807) :
  Calls Tryz.prog 48 #[.int .i64 n] w fun e w' => e = .returned (.int .i64 (n.natAbs : Int)) ∧ w = w' := by
 by_cases h : n < 0
 ·go_enter Tryz.func48, Tryz.ntmps48
  go_wp2
  go_ret
  exact ⟨ret_int (by omega), rfl⟩
 ·go_enter Tryz.func48, Tryz.ntmps48
  go_wp2
  go_ret
  exact ⟨ret_int (by omega), rfl⟩
def GcdRel (k : IntKind) (a b : Nat) (w : World) (u v : Value) (wr : World) : Prop :=
 ∃ x y : Nat, u = .int k x ∧ v = .int k y ∧ x ≤ 9223372036854775807 ∧ y ≤ 9223372036854775807 ∧ Nat.gcd x y = Nat.gcd a b ∧ ∃ n, wr = w.drewN n
theorem gcd_step {x y a b : Nat} (h : Nat.gcd x y = Nat.gcd a b) : Nat.gcd y (x % y) = Nat.gcd a b := by
 rw [← h, Nat.gcd_comm y, FracM.gcd_mod_left]
set_option maxHeartbeats 400000 in
theorem gcd_any (a b : Nat) (w : World) (h1 : a ≤ 9223372036854775807) (h2 : b ≤ 9223372036854775807) :
  Calls Tryz.prog 47 #[.int .i64 a, .int .i64 b] w (Quiet (.int .i64 (Nat.gcd a b : Nat)) w) := by
 go_enter Tryz.func47, Tryz.ntmps47
 go_wp2
 go_loopw [0, 1] (fun u v wr => GcdRel .i64 a b w u v wr) (fun _ v _ => (intOf v).toNat)
 case atStart => exact ⟨a, b, rfl, rfl, h1, h2, rfl, 0, rfl⟩
 case round =>
  obtain ⟨x, y, rfl, rfl, hx, hy, hg, n, rfl⟩ := hrel
  have HG := Lib.hid hg; clear hg
  by_cases hz : y = 0
  ·subst hz
   have HG2 : Hid (x = Nat.gcd a b) := by show x = Nat.gcd a b; simpa using HG.out
   clear HG
   go_wp2
   go_ret
   exact ⟨ret_int (by rw [← HG2.out]), n, rfl⟩
  ·have hz' : ((y : Int) != 0) = true := by simp; omega
   have hz2 : ((y : Int) == 0) = false := by simp; omega
   have hy1 : 1 ≤ (y : Int) := by omega
   have hlt : x % y < y := Nat.mod_lt _ (by omega)
   have hle : x % y ≤ 9223372036854775807 := by omega
   go_wp2
   go_region
   all_goals
    go_wp2
    go_roundw
    case rel => exact ⟨y, x % y, rfl, by go_num, hy, hle, gcd_step HG.out, n + 1, rfl⟩
    case measure => simp [intOf]; omega
theorem abs_same (n : Int) (w : World) (h1 : -9223372036854775807 ≤ n) (h2 : n ≤ 9223372036854775807) :
  Calls Tryz.prog 48 #[.int .i64 n] w fun e w' => e = .returned (.int .i64 (n.natAbs : Int)) ∧ w' = w := (abs_any n w h1 h2).mono fun _ _ ⟨a, b⟩ => ⟨a, b.symm⟩
theorem gcd_q (a b : Nat) (w : World) (h1 : a ≤ 9223372036854775807) (h2 : b ≤ 9223372036854775807) :
  Calls Tryz.prog 47 #[.int .i64 a, .int .i64 b] w fun e w' => e = .returned (.int .i64 (Nat.gcd a b : Nat)) ∧ ∃ n, w' = w.drewN n := gcd_any a b w h1 h2
theorem valid_no {n d : Int} (h : d < 1 ∨ 4611686018427387904 < d ∨ n < -4611686018427387904 ∨ 4611686018427387904 < n) : validB n d = false := by
 rw [Bool.eq_false_iff]; intro hv
 obtain ⟨h1, h2, h3, _⟩ := valid_iff.1 hv
 unfold M at *; omega
theorem valid_yes {n : Int} {d : Nat} (h1 : 1 ≤ d) (h2 : d ≤ 4611686018427387904) (h3 : n.natAbs ≤ 4611686018427387904) : validB n d = decide (((Nat.gcd n.natAbs d : Nat) : Int) = 1) := by
 rw [Bool.eq_iff_iff, valid_iff, decide_eq_true_iff]
 unfold M
 rw [Int.natAbs_natCast]
 omega
set_option maxHeartbeats 400000 in
theorem fvalid_any (n d : Int) (w : World) (l1 : -9223372036854775808 ≤ n) (u1 : n ≤ 9223372036854775807) (l2 : -9223372036854775808 ≤ d) (u2 : d ≤ 9223372036854775807) :
  Calls Tryz.prog 108 #[.agg #[.int .i64 n, .int .i64 d]] w fun e w' => e = .returned (.bool (validB n d)) ∧ Below w.heap.size w w' := by
 by_cases h1 : d < 1
 ·have E := Lib.hid (valid_no (n := n) (d := d) (.inl h1))
  go_enter Tryz.func108, Tryz.ntmps108
  go_wp2
  go_ret
  exact ⟨ret_bool (by rw [E.out]), bel1 _ _⟩
 by_cases h2 : 4611686018427387904 < d
 ·have E := Lib.hid (valid_no (n := n) (d := d) (.inr (.inl h2)))
  go_enter Tryz.func108, Tryz.ntmps108
  go_wp2
  go_ret
  exact ⟨ret_bool (by rw [E.out]), bel1 _ _⟩
 by_cases h3 : n < -4611686018427387904
 ·have E := Lib.hid (valid_no (n := n) (d := d) (.inr (.inr (.inl h3))))
  go_enter Tryz.func108, Tryz.ntmps108
  go_wp2
  go_ret
  exact ⟨ret_bool (by rw [E.out]), bel1 _ _⟩
 by_cases h4 : 4611686018427387904 < n
 ·have E := Lib.hid (valid_no (n := n) (d := d) (.inr (.inr (.inr h4))))
  go_enter Tryz.func108, Tryz.ntmps108
  go_wp2
  go_ret
  exact ⟨ret_bool (by rw [E.out]), bel1 _ _⟩
 obtain ⟨k, rfl⟩ : ∃ k : Nat, d = (k : Int) := ⟨d.toNat, by omega⟩
 have E := Lib.hid (valid_yes (n := n) (d := k) (by omega) (by omega) (by omega))
 go_enter Tryz.func108, Tryz.ntmps108
 go_wp2
 go_quiet (first | (go_at_call 48; exact Calls.quiet_of_same (abs_same _ _ (by omega) (by omega))) | (go_at_call 47; exact Calls.quiet_of (gcd_q _ _ _ (by omega) (by omega))))
 go_wp2
 go_ret
 exact ⟨ret_bool (by rw [E.out]; rfl), bdrew (bel1 _ _) _⟩
end
end Go.Proofs.YthoibeajhdhdhaaGreatDoor
