/- The reference's Parse in plain Lean: its digits, and that it answers as the program's Parse. -/
import Derived.Test.YtlplligfnbkofaaDoorTc
set_option linter.unusedVariables false
set_option linter.unusedSimpArgs false
namespace Go.Proofs.YtlplligfnbkofaaDoor
open Go.RowKit FracM

def isD (c : UInt8) : Bool := decide (48 ≤ c.toNat) && decide (c.toNat ≤ 57)
theorem isD_iff {c : UInt8} : isD c = true ↔ 48 ≤ c.toNat ∧ c.toNat ≤ 57 := by simp [isD]
def digL (l : List UInt8) : List UInt8 := l.takeWhile isD
def decV (l : List UInt8) : Nat := l.foldl (fun a c => 10 * a + (c.toNat - 48)) 0
theorem decV_snoc (l : List UInt8) (c : UInt8) : decV (l ++ [c]) = 10 * decV l + (c.toNat - 48) := by simp [decV]
theorem decV_lt : ∀ (k : Nat) (l : List UInt8), l.length = k → (∀ c ∈ l, isD c = true) → decV l < 10 ^ k
  | 0, l, h, _ => by
    have : l = [] := List.length_eq_zero_iff.1 h
    subst this; simp [decV]
  | k + 1, l, h, hd => by
    have hne : l ≠ [] := by rintro rfl; simp at h
    have e := List.dropLast_concat_getLast hne
    have h1 : l.dropLast.length = k := by simp [h]
    have ih := decV_lt k l.dropLast h1 (fun c hc => hd c (List.dropLast_subset _ hc))
    have h2 := isD_iff.1 (hd (l.getLast hne) (List.getLast_mem hne))
    rw [← e, decV_snoc, Nat.pow_succ]
    omega
theorem digL_all (l : List UInt8) : ∀ c ∈ digL l, isD c = true := by
  intro c hc
  induction l with
  | nil => simp [digL] at hc
  | cons b l ih =>
    unfold digL at hc ih
    rw [List.takeWhile_cons] at hc
    split at hc
    · rename_i hb
      rcases List.mem_cons.1 hc with rfl | hc
      · exact hb
      · exact ih hc
    · simp at hc
/-- the next byte behind the digits is none -/
theorem digL_at (l : List UInt8) : ∀ j, (j < (digL l).length → ∃ c, l[j]? = some c ∧ isD c = true ∧ (digL l)[j]? = some c) ∧ (j = (digL l).length → ∀ c, l[j]? = some c → isD c = false) := by
  induction l with
  | nil => intro j; simp [digL]
  | cons b l ih =>
    intro j
    have e : digL (b :: l) = if isD b then b :: digL l else [] := by simp [digL, List.takeWhile_cons]
    rw [e]
    by_cases hb : isD b = true
    · rw [if_pos hb]
      cases j with
      | zero => exact ⟨fun _ => ⟨b, rfl, hb, rfl⟩, fun h => by simp at h⟩
      | succ j =>
        obtain ⟨h1, h2⟩ := ih j
        exact ⟨fun h => by simpa using h1 (by simpa using h), fun h => by simpa using h2 (by simpa using h)⟩
    · rw [if_neg hb]
      cases j with
      | zero => exact ⟨fun h => by simp at h, fun _ c hc => by simp at hc; subst hc; simpa using hb⟩
      | succ j => exact ⟨fun h => by simp at h, fun h => by simp at h⟩
/-- what 'digits' finds at the beginning of l: the number and how many digits; none: a fault -/
def dgF (l : List UInt8) : Option (Nat × Nat) :=
  if (digL l).length = 0 ∨ 19 < (digL l).length ∨ 4611686018427387904 < decV (digL l) then none else some (decV (digL l), (digL l).length)
/-- behind the first number -/
def tailF (s : List UInt8) (num : Int) (tt : Nat) (den : Int) : Int × Int × Int :=
  if tt < s.length ∨ (textF num den).toList ≠ s then (0, 0, 2) else (num, den, 0)
def rparseF (s : List UInt8) : Int × Int × Int :=
  let at_ := if s[0]? = some 45 then 1 else 0
  match dgF (s.drop at_) with
  | none => (0, 0, 2)
  | some (n, k) =>
    let num : Int := if at_ = 1 then -(n : Int) else n
    if s[at_ + k]? = some 47 then
      match dgF (s.drop (at_ + k + 1)) with
      | none => (0, 0, 2)
      | some (d, k2) => tailF s num (at_ + k + 1 + k2) d
    else tailF s num (at_ + k) 1
theorem digL_dec (u : Nat) (r : List UInt8) (hr : ∀ c, r[0]? = some c → isD c = false) : digL (Lib.decDigits u ++ r) = Lib.decDigits u := by
  have : ∀ (l : List UInt8), (∀ c ∈ l, isD c = true) → digL (l ++ r) = l := by
    intro l
    induction l with
    | nil =>
      intro _
      cases r with
      | nil => rfl
      | cons c r => simp [digL, List.takeWhile_cons, hr c rfl]
    | cons b l ih =>
      intro h
      have hb := h b (by simp)
      have := ih (fun c hc => h c (by simp [hc]))
      unfold digL at *
      simp [List.takeWhile_cons, hb, this]
  exact this _ (fun c hc => isD_iff.2 (dec_digit u c hc))
theorem decV_dec (u : Nat) : decV (Lib.decDigits u) = u := by
  induction u using Nat.strongRecOn with
  | _ u ih =>
    rw [Lib.decDigits]
    split
    · rename_i h
      simp [decV]
      omega
    · rename_i h
      rw [decV_snoc, ih _ (by omega), UInt8.toNat_ofNat']; omega
theorem dec_small {u : Nat} (h : u ≤ 4611686018427387904) : (Lib.decDigits u).length ≤ 19 := by
  rcases Nat.lt_or_ge 19 (Lib.decDigits u).length with h1 | h1
  · exfalso
    have key : ∀ (k u : Nat), k < (Lib.decDigits u).length → 10 ^ k ≤ u ∨ k = 0 := by
      intro k
      induction k with
      | zero => intro u _; exact .inr rfl
      | succ k ih =>
        intro u hu
        left
        rw [Lib.decDigits] at hu
        split at hu
        · simp at hu
        · rename_i h10
          simp at hu
          rcases ih (u / 10) hu with h | h
          · rw [Nat.pow_succ]
            have := (Nat.le_div_iff_mul_le (by omega : 0 < 10)).1 h
            exact this
          · subst h; simp; omega
    rcases key 19 u h1 with h2 | h2
    · omega
    · cases h2
  · exact h1
theorem dgF_dec {u : Nat} {r : List UInt8} (hu : u ≤ 4611686018427387904) (hr : ∀ c, r[0]? = some c → isD c = false) : dgF (Lib.decDigits u ++ r) = some (u, (Lib.decDigits u).length) := by
  unfold dgF
  rw [digL_dec u r hr, decV_dec]
  have h1 := dec_small hu
  have h2 : (Lib.decDigits u).length ≠ 0 := fun h => dec_ne u (List.length_eq_zero_iff.1 h)
  rw [if_neg (by omega)]
end Go.Proofs.YtlplligfnbkofaaDoor
