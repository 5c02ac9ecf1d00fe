/- SilenceCap: the plain law. -/
import Derived.Test.YtoafpajibeejlaaLimit
set_option linter.unusedVariables false
set_option linter.unusedSimpArgs false
namespace Go.Proofs.Ytoafpajibeejlaa
open Go.RowKit

def sumH : List Sil → Int
  | [] => 0
  | s :: l => s.hd + sumH l
def CapOk (i : Nat) (s : Sil) : Prop := s.id = (i : Int) + 1 ∧ 0 ≤ s.hd ∧ s.hd ≤ s.cp ∧ s.cp ≤ 100 ∧ s.cl ≤ 3 ∧ (s.cl = 3 → soloB s.ow s.se = false)
/-- what holds of a book: its IDs count, no silence hides too much, h pages are hidden -/
def CapInv (sl : List Sil) (h : Int) : Prop := sumH sl = h ∧ ∀ i s, sl[i]? = some s → CapOk i s
theorem sumH_append (l : List Sil) (s : Sil) : sumH (l ++ [s]) = sumH l + s.hd := by
  induction l with
  | nil => simp [sumH]
  | cons x l ih => simp only [List.cons_append, sumH, ih]; omega
theorem sumH_set : ∀ (l : List Sil) (i : Nat) (s s' : Sil), l[i]? = some s → sumH (l.set i s') = sumH l - s.hd + s'.hd
  | [], i, s, s', h => by simp at h
  | x :: l, 0, s, s', h => by simp at h; subst h; simp only [List.set, sumH]; omega
  | x :: l, i + 1, s, s', h => by simp only [List.getElem?_cons_succ] at h; simp only [List.set, sumH, sumH_set l i s s' h]; omega
theorem sumH_take_succ : ∀ (l : List Sil) (k : Nat) (s : Sil), l[k]? = some s → sumH (l.drop k) = s.hd + sumH (l.drop (k + 1)) := by
  intro l k s h
  obtain ⟨hlt, e⟩ := List.getElem?_eq_some_iff.1 h
  rw [List.drop_eq_getElem_cons hlt, e]; rfl
theorem CapInv.set {sl : List Sil} {h : Int} {i : Nat} {s s' : Sil} (hI : CapInv sl h) (hi : sl[i]? = some s) (hk : CapOk i s') : CapInv (sl.set i s') (h - s.hd + s'.hd) := by
  refine ⟨by rw [sumH_set _ _ _ _ hi, hI.1], fun j x hj => ?_⟩
  by_cases e : i = j
  · subst e
    have hlt := (List.getElem?_eq_some_iff.1 hi).1
    rw [List.getElem?_set_self hlt] at hj
    cases hj; exact hk
  · rw [List.getElem?_set_ne e] at hj
    exact hI.2 j x hj
theorem check_zero {ms : List Mat} {ow se : ByteArray} {cl fr un cp tick : Int} (h : checkE ms ow se cl fr un cp tick = 0) : 1 ≤ cl ∧ cl ≤ 3 ∧ 1 ≤ cp ∧ cp ≤ 100 ∧ (cl = 3 → soloB ow se = false) := by
  unfold checkE at h
  split at h
  · cases h
  split at h
  · cases h
  split at h
  · cases h
  unfold numE at h
  split at h
  · cases h
  next h1 =>
  split at h
  · cases h
  split at h
  · cases h
  next h3 =>
  refine ⟨by omega, by omega, by omega, by omega, fun e => ?_⟩
  cases hs : soloB ow se
  · rfl
  · exact absurd ⟨e, hs⟩ h3
theorem capinv_open {sl : List Sil} {h : Int} (hI : CapInv sl h) (s : Sil) (tick : Int) : CapInv (openM sl s tick).2 h := by
  unfold openM
  split
  · exact hI
  next h1 =>
  split
  · exact hI
  have hc := check_zero (by simpa using h1)
  refine ⟨by rw [sumH_append, hI.1]; simp, fun j x hj => ?_⟩
  rw [List.getElem?_append] at hj
  split at hj
  · exact hI.2 j x hj
  next hlt =>
  have hj0 : j = sl.length := by
    have := (List.getElem?_eq_some_iff.1 hj).1
    simp at this; omega
  subst hj0
  simp at hj
  subst hj
  exact ⟨rfl, by simp, by simp only; omega, by simp only; omega, by simp only; omega, fun e => hc.2.2.2.2 e⟩
theorem capinv_extend {sl : List Sil} {h : Int} (hI : CapInv sl h) (id : Int) (p : ByteArray) (tick til : Int) : CapInv (extendM sl id p tick til).2 h := by
  unfold extendM
  split
  · exact hI
  split
  · exact hI
  next s hs =>
  split
  · exact hI
  split
  · exact hI
  have := hI.set (s' := { s with un := til }) hs (hI.2 _ s hs)
  simpa using this
theorem capinv_end {sl : List Sil} {h : Int} (hI : CapInv sl h) (id : Int) (p : ByteArray) (tick : Int) : CapInv (endM sl id p tick).2 h := by
  unfold endM
  split
  · exact hI
  split
  · exact hI
  next s hs =>
  split
  · exact hI
  have := hI.set (s' := { s with un := max tick s.fr }) hs (hI.2 _ s hs)
  simpa using this
theorem cov_parts {s : Sil} {ls : List Lab} {cls tick : Int} (h : covS s ls cls tick = true) : cls ≤ s.cl ∧ s.hd < s.cp := by
  unfold covS coversB at h
  simp only [Bool.and_eq_true, decide_eq_true_eq] at h
  omega
/-- Hide: nothing, or the silence at k -/
theorem capinv_hide {sl : List Sil} {h : Int} (hI : CapInv sl h) (ls : List Lab) (cls tick : Int) :
    hideM sl ls cls tick = ((0, false), sl) ∨ ∃ (k : Nat) (s : Sil), sl[k]? = some s ∧ hideM sl ls cls tick = (((k : Int) + 1, true), sl.set k { s with hd := s.hd + 1 }) ∧ CapInv (sl.set k { s with hd := s.hd + 1 }) (h + 1) ∧ cls ≤ s.cl ∧ s.cl ≤ 3 ∧ (s.cl = 3 → soloB s.ow s.se = false) := by
  unfold hideM
  split
  · exact .inl rfl
  next k hk =>
  split
  · exact .inl rfl
  next s hs =>
  right
  have hc : covS s ls cls tick = true := by
    unfold firstK at hk
    obtain ⟨hlt, hp, _⟩ := List.findIdx?_eq_some_iff_getElem.1 hk
    obtain ⟨_, e⟩ := List.getElem?_eq_some_iff.1 hs
    rw [← e]; exact hp
  have hok := hI.2 _ _ hs
  have hcp := cov_parts hc
  refine ⟨k, s, hs, by rw [hok.1], ?_, hcp.1, hok.2.2.2.2.1, hok.2.2.2.2.2⟩
  have := hI.set (s' := { s with hd := s.hd + 1 }) hs ⟨hok.1, by have := hok.2.1; simp only; omega, by simp only; omega, hok.2.2.2.1, hok.2.2.2.2.1, hok.2.2.2.2.2⟩
  simpa [show h - s.hd + (s.hd + 1) = h + 1 by omega] using this
theorem CapInv.fit {sl : List Sil} {h : Int} (hI : CapInv sl h) : ∀ x ∈ sl, CapFit x := by
  intro x hx
  obtain ⟨i, hi, rfl⟩ := List.mem_iff_getElem.1 hx
  have := hI.2 i _ (List.getElem?_eq_getElem hi)
  unfold CapOk at this
  exact ⟨by omega, by omega⟩
theorem sumH_nonneg : ∀ (l : List Sil), (∀ x ∈ l, 0 ≤ x.hd ∧ x.hd ≤ 100) → 0 ≤ sumH l ∧ sumH l ≤ 100 * l.length
  | [], _ => by simp [sumH]
  | x :: l, h => by
    have h1 := h x (by simp)
    have h2 := sumH_nonneg l (fun y hy => h y (by simp [hy]))
    simp only [sumH, List.length_cons]; omega
end Go.Proofs.Ytoafpajibeejlaa
