/- Contracts, packed: Ka. -/
import Derived.Test.YthoibeajhdhdhaaDoorPp3
import Derived.Lib.Bytealg
set_option linter.unusedVariables false
set_option linter.unusedSimpArgs false
namespace Go.Proofs.YthoibeajhdhdhaaDoor
section
open Go.RowKit

def bsL (l : List UInt8) : ByteArray := ⟨l.toArray⟩
/-- a token: its kind, text, number and offset -/
structure Tok where
  kind : Int
  text : List UInt8
  n : Int
  off : Nat
def letB (c : UInt8) : Bool := decide (97 ≤ c.toNat) && decide (c.toNat ≤ 122)
def digB (c : UInt8) : Bool := decide (48 ≤ c.toNat) && decide (c.toNat ≤ 57)
def wrdB (c : UInt8) : Bool := letB c || digB c || c.toNat == 95
def spcB (c : UInt8) : Bool := c.toNat == 9 || c.toNat == 10 || c.toNat == 13 || c.toNat == 32
def txtB (c : UInt8) : Bool := decide (33 ≤ c.toNat) && decide (c.toNat ≤ 126) && c.toNat != 92 && c.toNat != 44 && c.toNat != 123 && c.toNat != 125
/-- the number that a list of digits adds to another one, up to the bound -/
def numV : Int → List UInt8 → Int
  | n, [] => n
  | n, c :: r => if n ≤ 1073741824 then numV (n * 10 + ((c.toNat : Int) - 48)) r else n
def symN : List UInt8 → Nat
  | [] => 0
  | c :: r =>
    if c.toNat = 43 ∨ c.toNat = 45 ∨ c.toNat = 42 ∨ c.toNat = 47 ∨ c.toNat = 40 ∨ c.toNat = 41 ∨ c.toNat = 123 ∨ c.toNat = 125 ∨ c.toNat = 44 ∨ c.toNat = 46 ∨ c.toNat = 64 ∨ c.toNat = 61 then 1
    else if (c.toNat = 33 ∨ c.toNat = 94) ∧ (r.head?.map UInt8.toNat) = some 61 then 2 else 0
/-- the error, the token at the head of a list (the offset is i), and how many bytes it takes -/
def tokW (i : Nat) (r : List UInt8) : Int × Tok × Nat :=
  (if 16 < (r.takeWhile wrdB).length then 4 else 0, ⟨0, r.takeWhile wrdB, 0, i⟩, (r.takeWhile wrdB).length)
def tokN (i : Nat) (r : List UInt8) : Int × Tok × Nat :=
  (if 1073741824 < numV 0 (r.takeWhile digB) then 5 else 0, ⟨1, r.takeWhile digB, numV 0 (r.takeWhile digB), i⟩, (r.takeWhile digB).length)
def tokT (i : Nat) (r : List UInt8) : Int × Tok × Nat :=
  if Lib.indexByte r.tail 34 < 0 then (2, ⟨0, [], 0, 0⟩, 2)
  else if (r.tail.take (Lib.indexByte r.tail 34).toNat).all txtB then
    (if 16 < Lib.indexByte r.tail 34 then 4 else 0, ⟨2, r.tail.take (Lib.indexByte r.tail 34).toNat, 0, i⟩, (Lib.indexByte r.tail 34).toNat + 2)
  else (2, ⟨0, [], 0, 0⟩, 2)
def tokS (i : Nat) (r : List UInt8) : Int × Tok × Nat :=
  (if symN r = 0 then 2 else 0, ⟨3, r.take (symN r), 0, i⟩, symN r)
def tokM (i : Nat) (c : UInt8) (r : List UInt8) : Int × Tok × Nat :=
  if letB c then tokW i (c :: r) else if digB c then tokN i (c :: r) else if c.toNat = 34 then tokT i (c :: r) else tokS i (c :: r)
/-- the tokens of a list, whose first byte has the offset i; the error; the offset of the end or of the error -/
def lexM : Nat → Nat → List UInt8 → List Tok × Int × Nat
  | 0, i, _ => ([], 0, i)
  | _ + 1, i, [] => ([], 0, i)
  | n + 1, i, c :: r =>
    if spcB c then lexM n (i + 1) r
    else if (tokM i c r).1 = 0 then ((tokM i c r).2.1 :: (lexM n (i + (tokM i c r).2.2) ((c :: r).drop (tokM i c r).2.2)).1, (lexM n (i + (tokM i c r).2.2) ((c :: r).drop (tokM i c r).2.2)).2)
    else ([], (tokM i c r).1, i)
theorem digB_iff (c : UInt8) : digB c = true ↔ 48 ≤ c.toNat ∧ c.toNat ≤ 57 := by unfold digB; simp
theorem tw_pos {f : UInt8 → Bool} {c : UInt8} {r : List UInt8} (h : f c = true) : 0 < ((c :: r).takeWhile f).length := by rw [List.takeWhile_cons, h]; simp
theorem tok_pos {i : Nat} {c : UInt8} {r : List UInt8} (h : (tokM i c r).1 = 0) : 1 ≤ (tokM i c r).2.2 := by
  unfold tokM at *
  by_cases h1 : letB c
  · rw [if_pos h1]; exact tw_pos (by unfold wrdB; rw [h1]; rfl)
  rw [if_neg h1] at h ⊢
  by_cases h2 : digB c
  · rw [if_pos h2]; exact tw_pos h2
  rw [if_neg h2] at h ⊢
  by_cases h3 : c.toNat = 34
  · rw [if_pos h3] at h ⊢
    unfold tokT at *
    split
    · simp
    · split <;> simp
  rw [if_neg h3] at h ⊢
  unfold tokS at *
  simp only at h ⊢
  by_cases h4 : symN (c :: r) = 0
  · rw [if_pos h4] at h; exact absurd h (by decide)
  · omega
theorem ixb_lt : ∀ (l : List UInt8) (c : UInt8), -1 ≤ Lib.indexByte l c ∧ Lib.indexByte l c < l.length
  | [], c => by unfold Lib.indexByte; exact ⟨by omega, by simp⟩
  | b :: l, c => by
    obtain ⟨h1, h2⟩ := ixb_lt l c
    unfold Lib.indexByte
    split
    · exact ⟨by omega, by simp⟩
    · split
      · exact ⟨by omega, by simp; omega⟩
      · exact ⟨by omega, by simp; omega⟩
theorem symN_le (l : List UInt8) : symN l ≤ l.length := by
  cases l with
  | nil => simp [symN]
  | cons c r =>
    rw [symN]
    split
    · simp
    · split
      · rename_i h
        cases r with
        | nil => simp at h
        | cons d r => simp
      · simp
theorem tokW_f (i : Nat) (l : List UInt8) : (tokW i l).2.1.text.length = (tokW i l).2.2 ∧ (tokW i l).2.2 ≤ l.length := ⟨rfl, (List.takeWhile_prefix _).length_le⟩
theorem tokN_f (i : Nat) (l : List UInt8) : (tokN i l).2.1.text.length = (tokN i l).2.2 ∧ (tokN i l).2.2 ≤ l.length := ⟨rfl, (List.takeWhile_prefix _).length_le⟩
theorem tokS_f (i : Nat) (l : List UInt8) : (tokS i l).2.1.text.length = (tokS i l).2.2 ∧ (tokS i l).2.2 ≤ l.length := by
  have := symN_le l
  unfold tokS
  exact ⟨by simp only [List.length_take]; omega, this⟩
theorem tokT_f {i : Nat} {l : List UInt8} (h : (tokT i l).1 = 0) (hl : l ≠ []) : 2 + (tokT i l).2.1.text.length = (tokT i l).2.2 ∧ (tokT i l).2.2 ≤ l.length := by
  have hx := ixb_lt l.tail 34
  have hp : 0 < l.length := List.length_pos_iff.2 hl
  rw [List.length_tail] at hx
  unfold tokT at *
  split
  · rename_i h1; rw [if_pos h1] at h; simp at h
  · rename_i h1
    rw [if_neg h1] at h
    split
    · simp only [List.length_take, List.length_tail]; omega
    · rename_i h2; rw [if_neg h2] at h; simp at h
/-- more turns do not matter -/
theorem lexM_more : ∀ (n m i : Nat) (l : List UInt8), l.length ≤ n → l.length ≤ m → lexM n i l = lexM m i l := by
  intro n
  induction n with
  | zero => intro m i l h1 h2; obtain rfl := List.eq_nil_of_length_eq_zero (by omega : l.length = 0); cases m <;> simp [lexM]
  | succ n ih =>
    intro m i l h1 h2
    cases l with
    | nil => cases m <;> simp [lexM]
    | cons c r =>
      simp only [List.length_cons] at h1 h2
      obtain ⟨m, rfl⟩ : ∃ k, m = k + 1 := ⟨m - 1, by omega⟩
      rw [lexM, lexM]
      by_cases hs : spcB c
      · rw [if_pos hs, if_pos hs]; exact ih m _ _ (by omega) (by omega)
      rw [if_neg hs, if_neg hs]
      by_cases he : (tokM i c r).1 = 0
      · have hp := tok_pos he
        rw [if_pos he, if_pos he, ih m _ _ (by simp; omega) (by simp; omega)]
      · rw [if_neg he, if_neg he]
end
end Go.Proofs.YthoibeajhdhdhaaDoor
