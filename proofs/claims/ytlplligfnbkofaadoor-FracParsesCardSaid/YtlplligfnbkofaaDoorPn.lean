/- The reference's Parse answers as the program's. -/
import Derived.Test.YtlplligfnbkofaaDoorPm
set_option linter.unusedVariables false
set_option linter.unusedSimpArgs false
namespace Go.Proofs.YtlplligfnbkofaaDoor
open Go.RowKit FracM

theorem text_toL {n d : Int} (v : validB n d = true) : (textF n d).toList = textL n d := by rw [textF_l v, toL]
theorem valid_of_text {n d : Int} (h : (textF n d).toList ≠ []) : validB n d = true := by
  by_cases v : validB n d = true
  · exact v
  · exfalso; apply h
    have : textF n d = bs [] := by unfold textF; simp [v]; rfl
    rw [this, toL]
theorem textL_ne (n d : Int) : textL n d ≠ [] := by unfold textL; split; exact itoa_ne n; simp
theorem parse_shape (s : ByteArray) : parseF s = (0, 0, 2) ∨ ∃ n d, validB n d = true ∧ s.toList = textL n d ∧ parseF s = (n, d, 0) := by
  by_cases h1 : ∃ v, Lib.atoiAll (cutL s).data.toList = .ok v
  · obtain ⟨num, h1⟩ := h1
    by_cases h2 : ∃ v, Lib.atoiAll (cutR s).data.toList = .ok v
    · obtain ⟨den, h2⟩ := h2
      rw [parse_ok h1 h2]
      split
      · exact .inl rfl
      · rename_i hc
        simp at hc
        have hv : validB num den = true := valid_of_text (by rw [hc.2]; exact hc.1)
        exact .inr ⟨num, den, hv, by rw [← hc.2, text_toL hv], rfl⟩
    · exact .inl (parse_bad2 h1 (fun v hv => h2 ⟨v, hv⟩))
  · exact .inl (parse_bad1 (fun v hv => h1 ⟨v, hv⟩))
theorem tail_shape (s : List UInt8) (num : Int) (tt : Nat) (den : Int) (hs : s ≠ []) : tailF s num tt den = (0, 0, 2) ∨ ∃ n d, validB n d = true ∧ s = textL n d ∧ tailF s num tt den = (n, d, 0) := by
  unfold tailF
  split
  · exact .inl rfl
  · rename_i hc
    simp only [not_or, Decidable.not_not] at hc
    have hv : validB num den = true := valid_of_text (by rw [hc.2]; exact hs)
    exact .inr ⟨num, den, hv, by rw [← hc.2, text_toL hv], rfl⟩
theorem rparse_shape (s : List UInt8) : rparseF s = (0, 0, 2) ∨ ∃ n d, validB n d = true ∧ s = textL n d ∧ rparseF s = (n, d, 0) := by
  by_cases hs : s = []
  · subst hs; exact .inl rfl
  · unfold rparseF
    simp only
    generalize (if s[0]? = some 45 then 1 else 0) = a
    split
    · exact .inl rfl
    · split
      · split
        · exact .inl rfl
        · exact tail_shape s _ _ _ hs
      · exact tail_shape s _ _ _ hs
theorem tail_ok {n d : Int} {tt : Nat} (v : validB n d = true) (ht : tt = (textL n d).length) : tailF (textL n d) n tt d = (n, d, 0) := by
  unfold tailF; rw [if_neg]; simp [text_toL v, ht]
/-- the sign's place, the digits, the rest -/
theorem rparse_core {p : List UInt8} {u : Nat} {rest : List UInt8} {n d : Int} {a : Nat} (v : validB n d = true) (hs : textL n d = p ++ (Lib.decDigits u ++ rest)) (hp : p.length = a) (ha : a = if (textL n d)[0]? = some 45 then 1 else 0)
    (hn : n = if a = 1 then -(u : Int) else u) (hu : u ≤ 4611686018427387904) (hr : rest = [] ∧ d = 1 ∨ ∃ D : Nat, d = D ∧ D ≤ 4611686018427387904 ∧ rest = 47 :: Lib.decDigits D) : rparseF (textL n d) = (n, d, 0) := by
  have hlen : (textL n d).length = a + ((Lib.decDigits u).length + rest.length) := by rw [hs]; simp [hp]
  have hd : (textL n d).drop a = Lib.decDigits u ++ rest := by rw [hs, ← hp]; simp
  have h47 : isD 47 = false := by decide
  have hrest : ∀ c, rest[0]? = some c → isD c = false := by
    rcases hr with ⟨rfl, _⟩ | ⟨D, _, _, rfl⟩
    · intro c hc; simp at hc
    · intro c hc; simp at hc; subst hc; exact h47
  have hat : (textL n d)[a + (Lib.decDigits u).length]? = rest[0]? := by
    rw [← List.getElem?_drop, hd, List.getElem?_append_right (Nat.le_refl _)]; simp
  unfold rparseF
  simp only
  rw [← ha, hd, dgF_dec hu hrest]
  simp only
  rw [hat, ← hn]
  rcases hr with ⟨rfl, rfl⟩ | ⟨D, rfl, hD, rfl⟩
  · simp only [List.getElem?_nil, reduceCtorEq, if_false]
    exact tail_ok v (by rw [hlen]; simp)
  · simp only [List.getElem?_cons_zero, if_true]
    have hd2 : (textL n D).drop (a + (Lib.decDigits u).length + 1) = Lib.decDigits D ++ [] := by
      rw [show a + (Lib.decDigits u).length + 1 = a + ((Lib.decDigits u).length + 1) by omega, ← List.drop_drop, hd]
      simp [List.drop_append]
    rw [hd2, dgF_dec hD (fun c hc => by simp at hc)]
    simp only
    exact tail_ok v (by rw [hlen]; simp; omega)
theorem rparse_text {n d : Int} (v : validB n d = true) : rparseF (textL n d) = (n, d, 0) := by
  obtain ⟨b1, b2, b3⟩ := valid_bd v
  have k1 : n < 0 → n = -((n.natAbs : Nat) : Int) := fun h => by omega
  have k2 : ¬ n < 0 → n = ((n.natAbs : Nat) : Int) := fun h => by omega
  have k3 : ¬ n < 0 → n.toNat = n.natAbs := fun h => by omega
  have hrest : ∃ rest, textL n d = Lib.itoa n ++ rest ∧ (rest = [] ∧ d = 1 ∨ ∃ D : Nat, d = D ∧ D ≤ 4611686018427387904 ∧ rest = 47 :: Lib.decDigits D) := by
    unfold textL
    by_cases h1 : d = 1
    · rw [if_pos h1]; exact ⟨[], by simp, .inl ⟨rfl, h1⟩⟩
    · rw [if_neg h1]
      obtain ⟨D, rfl⟩ : ∃ D : Nat, d = D := ⟨d.natAbs, by omega⟩
      exact ⟨_, rfl, .inr ⟨D, rfl, by omega, by rw [Lib.itoa_nonneg]⟩⟩
  obtain ⟨rest, h1, h2⟩ := hrest
  by_cases hn : n < 0
  · have hi : Lib.itoa n = 45 :: Lib.decDigits n.natAbs := by unfold Lib.itoa; rw [if_pos hn]
    rw [hi] at h1
    exact rparse_core (p := [45]) (u := n.natAbs) (rest := rest) (a := 1) v (by rw [h1]; rfl) rfl (by rw [h1]; rfl) (by rw [if_pos rfl]; exact k1 hn) b1 h2
  · have hi : Lib.itoa n = Lib.decDigits n.natAbs := by unfold Lib.itoa; rw [if_neg hn, k3 hn]
    rw [hi] at h1
    refine rparse_core (p := []) (u := n.natAbs) (rest := rest) (a := 0) v (by rw [h1]; rfl) rfl ?_ (by rw [if_neg (by decide)]; exact k2 hn) b1 h2
    rw [h1]
    cases hd : Lib.decDigits n.natAbs with
    | nil => exact absurd hd (dec_ne _)
    | cons c r =>
      have hc := dec_digit n.natAbs c (by rw [hd]; simp)
      have : ¬ c = 45 := by rintro rfl; exact absurd hc.1 (by decide)
      simp [this]
theorem rparse_eq (s : ByteArray) : rparseF s.data.toList = parseF s := by
  have hsl : s.toList = s.data.toList := ByteArray.toList_eq _
  rcases rparse_shape s.data.toList with h | ⟨n, d, v, hs, h⟩
  · rcases parse_shape s with h2 | ⟨n, d, v, hs, h2⟩
    · rw [h, h2]
    · exfalso
      rw [hsl] at hs
      rw [hs, rparse_text v] at h
      simp at h
  · have : s = textF n d := by
      rw [textF_l v]
      apply ByteArray.ext
      show s.data = (textL n d).toArray
      rw [← hs]
    rw [h, this, parse_text v]
end Go.Proofs.YtlplligfnbkofaaDoor
