/- Same and sameMatchers of the reference: true for equal lists. -/
import Derived.Test.YtoafpajibeejlaaHide
set_option linter.unusedVariables false
set_option linter.unusedSimpArgs false
namespace Go.Proofs.Ytoafpajibeejlaa
open Go.RowKit

theorem samem_any (A : Option Addr) (n c : Nat) (A' : Option Addr) (n' c' base : Nat) (ms : List Mat) (w : World) (h : Mats w base (.slice A n c) ms) (h' : Mats w base (.slice A' n' c') ms) :
    Calls Try.prog 48 #[.slice A n c, .slice A' n' c'] w fun e w' => e = .returned (.bool true) ∧ Below w.heap.size w w' := by
  obtain ⟨hn, hm⟩ := h.len
  obtain rfl : n' = n := by rw [hn, h'.len.1]
  have HN := Lib.hid hn; clear hn
  have HL := Lib.hid h; clear h
  have HM := Lib.hid h'; clear h'
  go_enter Try.func48, Try.ntmps48
  go_wp2
  go_loopw [5] (fun i wr => ∃ k : Nat, k ≤ n' ∧ i = .int .i64 k ∧ Below w.heap.size w wr) (fun i _ => n' - (intOf i).toNat)
  case atStart => exact ⟨0, Nat.zero_le _, rfl, Below.refl _ _⟩
  case round =>
    obtain ⟨k, hk, rfl, hbw⟩ := hrel
    have hsz := hbw.size
    by_cases hlt : k < n'
    · obtain ⟨x, hx⟩ : ∃ x, ms[k]? = some x := ⟨ms[k]'(by rw [← HN.out]; exact hlt), List.getElem?_eq_getElem _⟩
      obtain ⟨b, off, rfl, hb, c0, c1, c2⟩ := (HM.out.below hbw).at_ k x hx
      obtain ⟨b', off', rfl, hb', d0, d1, d2⟩ := (HL.out.below hbw).at_ k x hx
      have HB := Lib.hid hbw; clear hbw hx
      obtain ⟨x0, x1, x2⟩ := x
      have hr1 : (k : Int) < (n' : Int) := by omega
      go_wp2
      go_quiet (fail)
      go_wp2
      go_roundw
      case rel => exact ⟨k + 1, by omega, by go_num, below_drewN HB.out _⟩
      case measure => simp [intOf]; omega
    · go_wp2
      go_ret
      exact ⟨rfl, hbw⟩

theorem map_at {l l' : List (Sil × Value)} (h : l.map Prod.fst = l'.map Prod.fst) {k : Nat} {s : Sil} {mv : Value} (hk : l[k]? = some (s, mv)) : ∃ mv', l'[k]? = some (s, mv') := by
  have : (l'.map Prod.fst)[k]? = some s := by rw [← h, List.getElem?_map, hk]; rfl
  rw [List.getElem?_map] at this
  obtain ⟨x, hx, rfl⟩ := Option.map_eq_some_iff.1 this
  exact ⟨x.2, hx⟩

set_option maxRecDepth 100000 in
set_option maxHeartbeats 1000000 in
theorem same_any (A : Option Addr) (n c : Nat) (A' : Option Addr) (n' c' base : Nat) (l l' : List (Sil × Value)) (w : World) (h : Sils w base 24 (.slice A n c) l) (h' : Sils w base 24 (.slice A' n' c') l') (he : l.map Prod.fst = l'.map Prod.fst) :
    Calls Try.prog 27 #[.slice A n c, .slice A' n' c'] w fun e w' => e = .returned (.bool true) ∧ Below w.heap.size w w' := by
  obtain ⟨hn, hm⟩ := h.len
  obtain rfl : n' = n := by
    have := congrArg List.length he
    simp at this
    rw [hn, h'.len.1, this]
  have HN := Lib.hid hn; clear hn
  have HL := Lib.hid h; clear h
  have HM := Lib.hid h'; clear h'
  have HE := Lib.hid he; clear he
  go_enter Try.func27, Try.ntmps27
  go_wp2
  go_loopw [5] (fun i wr => ∃ k : Nat, k ≤ n' ∧ i = .int .i64 k ∧ Below w.heap.size w wr) (fun i _ => n' - (intOf i).toNat)
  case atStart => exact ⟨0, Nat.zero_le _, rfl, Below.refl _ _⟩
  case round =>
    obtain ⟨k, hk, rfl, hbw⟩ := hrel
    have hsz := hbw.size
    by_cases hlt : k < n'
    · obtain ⟨x, hx⟩ : ∃ x, l[k]? = some x := ⟨l[k]'(by rw [← HN.out]; exact hlt), List.getElem?_eq_getElem _⟩
      obtain ⟨s, mv⟩ := x
      obtain ⟨mv', hx'⟩ := map_at HE.out hx
      obtain ⟨b, off, rfl, hb, ⟨c0, c1, c2, c3, c4, c5, c6, c7, c8⟩, hmx, hmo⟩ := (HL.out.below hbw).at_ k _ hx
      obtain ⟨b', off', rfl, hb', ⟨d0, d1, d2, d3, d4, d5, d6, d7, d8⟩, hmx', hmo'⟩ := (HM.out.below hbw).at_ k _ hx'
      obtain ⟨A1, cp1, hmv⟩ := hmx.form
      obtain ⟨A2, cp2, hmv'⟩ := hmx'.form
      simp only at hmv hmv'
      subst hmv hmv'
      have HB := Lib.hid hbw
      have HX := Lib.hid (And.intro hmx hmx')
      clear hbw hx hx' hmx hmx' hmo hmo'
      obtain ⟨i, ms, ow, se, cl, fr, un, cp, hd⟩ := s
      simp only at c0 c1 c2 c3 c4 c5 c6 c7 c8 d0 d1 d2 d3 d4 d5 d6 d7 d8
      go_wp2_with (go_at_call 48; refine (samem_any _ _ _ _ _ _ base ms _ (by exact HX.out.1.below (bel2 _ _ _)) (by exact HX.out.2.below (bel2 _ _ _))).mono ?_; rintro e w2 ⟨rfl, hb2⟩; have HB2 : Hid (Below w.heap.size w w2) := ((HB.out.alloc hsz _).alloc (by simp; omega) _).trans (hb2.mono (by simp; omega)); clear hb2)
      go_roundw
      case rel => exact ⟨k + 1, by omega, by go_num, HB2.out⟩
      case measure => simp [intOf]; omega
    · go_wp2
      go_ret
      exact ⟨rfl, hbw⟩
end Go.Proofs.Ytoafpajibeejlaa
