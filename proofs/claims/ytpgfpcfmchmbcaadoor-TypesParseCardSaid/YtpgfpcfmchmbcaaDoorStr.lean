/- Names and values of labels: contracts of package labels and of its reference, and of the small functions of the references. -/
import Derived.Test.YtpgfpcfmchmbcaaDoorBase
set_option linter.unusedVariables false
set_option linter.unusedSimpArgs false
namespace Go.Proofs.YtpgfpcfmchmbcaaDoor
open Go.RowKit

/-- 'Around': n modulo most, never negative. -/
def around (n most : Int) : Int := if n < 0 then (-(n + 1)) % most else n % most

theorem around_any (n most : Int) (w : World) (hn1 : -9223372036854775808 ≤ n) (hn2 : n ≤ 9223372036854775807) (h1 : 1 ≤ most) (h2 : most ≤ 9223372036854775807) :
    Calls Tryd.prog 13 #[.int .i64 n, .int .i64 most] w fun e w' => e = .returned (.int .i64 (around n most)) ∧ w = w' := by
  by_cases h : n < 0
  · have e : around n most = (-(n + 1)) % most := if_pos h
    have e2 : (-(n + 1)).tmod most = (-(n + 1)) % most := Int.tmod_eq_emod_of_nonneg (by omega)
    have E := Lib.hid e; have E2 := Lib.hid e2; clear e e2
    go_enter Tryd.func13, Tryd.ntmps13
    go_wp2
    go_ret
    exact ⟨ret_int (by rw [E.out, ← E2.out, Int.neg_tmod]), rfl⟩
  · have e : around n most = n % most := if_neg h
    have E := Lib.hid e; clear e
    go_enter Tryd.func13, Tryd.ntmps13
    go_wp2
    go_ret
    exact ⟨ret_int (by rw [E.out]), rfl⟩

theorem around_bd (n most : Int) (h1 : 1 ≤ most) : 0 ≤ around n most ∧ around n most < most := by
  unfold around; split <;> exact ⟨Int.emod_nonneg _ (by omega), Int.emod_lt_of_pos _ (by omega)⟩

/-- 'Short': the first bytes of a string. -/
def short (s : ByteArray) (most : Nat) : ByteArray := if most < s.size then s.extract 0 most else s
theorem short_any (s : ByteArray) (most : Nat) (w : World) (hs : s.size ≤ maxLen) (h1 : most ≤ 1000) :
    Calls Tryd.prog 9 #[.string s, .int .i64 most] w fun e w' => e = .returned (.string (short s most)) ∧ w = w' := by
  unfold maxLen at hs
  by_cases h : most < s.size
  · have e : short s most = s.extract 0 most := if_pos h
    have E := Lib.hid e; clear e
    go_enter Tryd.func9, Tryd.ntmps9
    go_wp2
    go_ret
    exact ⟨ret_str (by rw [E.out]), rfl⟩
  · have e : short s most = s := if_neg h
    have E := Lib.hid e; clear e
    go_enter Tryd.func9, Tryd.ntmps9
    go_wp2
    go_ret
    exact ⟨ret_str (by rw [E.out]), rfl⟩
theorem short_size (s : ByteArray) (most : Nat) : (short s most).size ≤ most := by
  unfold short; split
  · simp [ByteArray.size_extract]; omega
  · omega

def lettB (c : Nat) : Bool := decide (97 ≤ c) && decide (c ≤ 122)
def othB (c : Nat) : Bool := decide (48 ≤ c) && decide (c ≤ 57) || c == 95
/-- a byte that may stand in a name, at the first place or not -/
def nmB (first : Bool) (c : Nat) : Bool := lettB c || (!first && othB c)
def nameB (s : ByteArray) : Bool := decide (1 ≤ s.size) && decide (s.size ≤ 16) && (List.range s.size).all fun i => nmB (i == 0) (s.get! i).toNat
def vlB (c : Nat) : Bool := decide (33 ≤ c) && decide (c ≤ 126) && !(c == 34 || c == 92 || c == 44 || c == 123 || c == 125)
def valueB (s : ByteArray) : Bool := decide (s.size ≤ 16) && (List.range s.size).all fun i => vlB (s.get! i).toNat

theorem get!_of (s : ByteArray) (k : Nat) (h : k < s.size) : s.get! k = s[k] := by
  simp [ByteArray.get!, getElem!_pos, h]; rfl
theorem nameB_true {s : ByteArray} (h1 : 1 ≤ s.size) (h2 : s.size ≤ 16) (h : ∀ j (hj : j < s.size), nmB (j == 0) s[j].toNat = true) : nameB s = true := by
  unfold nameB
  rw [decide_eq_true h1, decide_eq_true h2]
  simp only [Bool.and_self, Bool.true_and, List.all_eq_true, List.mem_range]
  intro j hj
  rw [get!_of s j hj]; exact h j hj
theorem nameB_false {s : ByteArray} (k : Nat) (hk : k < s.size) (h : nmB (k == 0) s[k].toNat = false) : nameB s = false := by
  unfold nameB
  rw [Bool.and_eq_false_iff]
  right
  rw [List.all_eq_false]
  exact ⟨k, List.mem_range.2 hk, by rw [get!_of s k hk, h]; simp⟩
theorem nameB_short {s : ByteArray} (h : s.size < 1 ∨ 16 < s.size) : nameB s = false := by
  unfold nameB
  rcases h with h | h
  · rw [decide_eq_false (by omega)]; simp
  · rw [decide_eq_false (p := s.size ≤ 16) (by omega)]; simp
theorem valueB_true {s : ByteArray} (h2 : s.size ≤ 16) (h : ∀ j (hj : j < s.size), vlB s[j].toNat = true) : valueB s = true := by
  unfold valueB
  rw [decide_eq_true h2]
  simp only [Bool.and_self, Bool.true_and, List.all_eq_true, List.mem_range]
  intro j hj
  rw [get!_of s j hj]; exact h j hj
theorem valueB_false {s : ByteArray} (k : Nat) (hk : k < s.size) (h : vlB s[k].toNat = false) : valueB s = false := by
  unfold valueB
  rw [Bool.and_eq_false_iff]
  right
  rw [List.all_eq_false]
  exact ⟨k, List.mem_range.2 hk, by rw [get!_of s k hk, h]; simp⟩
theorem valueB_long {s : ByteArray} (h : 16 < s.size) : valueB s = false := by
  unfold valueB
  rw [decide_eq_false (by omega)]; simp

theorem nm_1 (f : Bool) {c : Nat} (h : lettB c = true) : nmB f c = true := by simp [nmB, h]
theorem nm_2 {c : Nat} (h : lettB c = false) : nmB ((0 : Nat) == 0) c = false := by simp [nmB, h]
theorem nm_3 {k c : Nat} (hk : ¬ k = 0) (h : othB c = true) : nmB (k == 0) c = true := by simp [nmB, h, hk]
theorem nm_4 {f : Bool} {c : Nat} (h : lettB c = false) (h' : othB c = false) : nmB f c = false := by simp [nmB, h, h']
theorem name_next {s : ByteArray} {k : Nat} {hk : k < s.size} (h : ∀ j (hj : j < s.size), j < k → nmB (j == 0) s[j].toNat = true) (h' : nmB (k == 0) s[k].toNat = true) :
    Hid (∀ j (hj : j < s.size), j < k + 1 → nmB (j == 0) s[j].toNat = true) := by
  intro j hj hlt
  rcases Nat.lt_or_ge j k with h1 | h1
  · exact h j hj h1
  · obtain rfl : j = k := by omega
    exact h'

theorem oth_cases (c : Nat) : (48 ≤ c ∧ c ≤ 57 ∧ othB c = true) ∨ (48 ≤ c ∧ 57 < c ∧ ((c : Int) == 95) = true ∧ othB c = true) ∨ (((c : Int) == 95) = false ∧ othB c = false ∧ (c < 48 ∨ 57 < c)) := by
  by_cases h1 : 48 ≤ c ∧ c ≤ 57
  · exact .inl ⟨h1.1, h1.2, by simp [othB, h1]⟩
  by_cases h2 : c = 95
  · subst h2; exact .inr (.inl ⟨by omega, by omega, by simp, by simp [othB]⟩)
  · refine .inr (.inr ⟨?_, ?_, by omega⟩)
    · simp; omega
    · simp [othB, h2]; omega
end Go.Proofs.YtpgfpcfmchmbcaaDoor
