/- Contracts, packed: Match2. -/
import Derived.Test.YtpgdijbfkahepaaGreatDoorPd4
import Derived.Deep.RegionHeld3
import Derived.WalkSmall
set_option linter.unusedVariables false
set_option linter.unusedSimpArgs false
namespace Go.Proofs.YtpgdijbfkahepaaGreatDoor
section
open Go.RowKit
def prefB (v p : ByteArray) : Bool := decide (p.size ≤ v.size) && ((v.extract 0 p.size).toList == p.toList)
def holdsB (m : Mat) (v : ByteArray) : Bool :=
 if m.2.1 = 0 then v.toList == m.2.2.toList else if m.2.1 = 1 then !(v.toList == m.2.2.toList) else if m.2.1 = 2 then prefB v m.2.2 else false
def matchB (l : List Lab) (ms : List Mat) : Bool := ms.all fun m => holdsB m (getL l m.1)
def vmatB (m : Mat) : Bool := nameB m.1 && (decide (0 ≤ m.2.1) && decide (m.2.1 ≤ 2)) && valueB m.2.2
theorem slpref_any (v p : ByteArray) (w : World) : Calls Tryz.prog 55 #[.string v, .string p] w fun e w' => e = .returned (.bool (prefB v p)) ∧ w = w' := by
 by_cases h : p.size ≤ v.size
 ·have E : Hid (prefB v p = ((v.extract 0 p.size).toList == p.toList)) := by unfold prefB; rw [decide_eq_true h]; rfl
  go_enter Tryz.func55, Tryz.ntmps55
  go_wp2
  go_ret
  exact ⟨ret_bool (by rw [E.out]), rfl⟩
 ·have E : Hid (prefB v p = false) := by unfold prefB; rw [decide_eq_false h]; rfl
  have h' : decide (p.size ≤ v.size) = false := by simpa using h
  go_enter Tryz.func55, Tryz.ntmps55
  go_wp2
  go_ret
  exact ⟨ret_bool (by rw [E.out]), rfl⟩
theorem pref_any (v p : ByteArray) (w : World) : Calls Tryz.prog 35 #[.string v, .string p] w fun e w' => e = .returned (.bool (prefB v p)) ∧ w = w' := by
 go_enter Tryz.func35, Tryz.ntmps35
 go_wp2_with (go_at_call 55; refine (slpref_any _ _ _).mono ?_; rintro e w' ⟨rfl, rfl⟩)
 go_ret
 exact ⟨rfl, rfl⟩
set_option maxHeartbeats 400000 in
theorem holds_any (m : Mat) (v : ByteArray) (w : World) :
  Calls Tryz.prog 56 #[.agg #[.string m.1, .int .i64 m.2.1, .string m.2.2], .string v] w fun e w' => e = .returned (.bool (holdsB m v)) ∧ Below w.heap.size w w' := by
 obtain ⟨nm, kd, vl⟩ := m
 simp only
 by_cases h0 : kd = 0
 ·subst h0
  have E : Hid (holdsB (nm, 0, vl) v = (v.toList == vl.toList)) := by rfl
  go_enter Tryz.func56, Tryz.ntmps56
  go_wp2
  go_ret
  exact ⟨ret_bool (by rw [E.out]), (Below.refl _ _).alloc (Nat.le_refl _) _⟩
 by_cases h1 : kd = 1
 ·subst h1
  have E : Hid (holdsB (nm, 1, vl) v = (!(v.toList == vl.toList))) := by rfl
  go_enter Tryz.func56, Tryz.ntmps56
  go_wp2
  go_ret
  exact ⟨ret_bool (by rw [E.out]), (Below.refl _ _).alloc (Nat.le_refl _) _⟩
 by_cases h2 : kd = 2
 ·subst h2
  by_cases h : vl.size ≤ v.size
  ·have E : Hid (holdsB (nm, 2, vl) v = ((v.extract 0 vl.size).toList == vl.toList)) := by
    show prefB v vl = _
    unfold prefB; rw [decide_eq_true h]; rfl
   go_enter Tryz.func56, Tryz.ntmps56
   go_wp2
   go_quiet (fail)
   go_wp2
   go_ret
   exact ⟨ret_bool (by rw [E.out]), Go.below_drewN ((Below.refl _ _).alloc (Nat.le_refl _) _) _⟩
  ·have E : Hid (holdsB (nm, 2, vl) v = false) := by
    show prefB v vl = _
    unfold prefB; rw [decide_eq_false h]; rfl
   have h' : decide (vl.size ≤ v.size) = false := by simpa using h
   go_enter Tryz.func56, Tryz.ntmps56
   go_wp2
   go_quiet (fail)
   go_wp2
   go_ret
   exact ⟨ret_bool (by rw [E.out]), Go.below_drewN ((Below.refl _ _).alloc (Nat.le_refl _) _) _⟩
 ·have E : Hid (holdsB (nm, kd, vl) v = false) := by
   show (if kd = 0 then _ else if kd = 1 then _ else if kd = 2 then _ else _) = _
   rw [if_neg h0, if_neg h1, if_neg h2]
  have h0' : (kd == 0) = false := by simpa using h0
  have h1' : (kd == 1) = false := by simpa using h1
  have h2' : (kd == 2) = false := by simpa using h2
  clear h0 h1 h2
  go_enter Tryz.func56, Tryz.ntmps56
  go_wp2
  go_ret
  exact ⟨ret_bool (by rw [E.out]), (Below.refl _ _).alloc (Nat.le_refl _) _⟩
theorem matchB_yes {l : List Lab} {ms : List Mat} {k : Nat} {x : Mat} (hk : ms[k]? = some x) (h : holdsB x (getL l x.1) = true) : matchB l (ms.drop k) = matchB l (ms.drop (k + 1)) := by
 obtain ⟨hlt, e⟩ := List.getElem?_eq_some_iff.1 hk
 rw [List.drop_eq_getElem_cons hlt, e]
 simp [matchB, h]
theorem matchB_no {l : List Lab} {ms : List Mat} {k : Nat} {x : Mat} (hk : ms[k]? = some x) (h : holdsB x (getL l x.1) = false) : matchB l (ms.drop k) = false := by
 obtain ⟨hlt, e⟩ := List.getElem?_eq_some_iff.1 hk
 rw [List.drop_eq_getElem_cons hlt, e]
 simp [matchB, h]
set_option maxHeartbeats 400000 in
theorem rmatch_any (A : Option Addr) (n c : Nat) (A' : Option Addr) (n' c' base : Nat) (l : List Lab) (ms : List Mat) (w : World) (h : Labs w base (.slice A n c) l) (h' : Mats w base (.slice A' n' c') ms) :
  Calls Tryz.prog 37 #[.slice A n c, .slice A' n' c'] w fun e w' => e = .returned (.bool (matchB l ms)) ∧ Below w.heap.size w w' := by
 obtain ⟨hn, hm⟩ := h'.len
 have HN := Lib.hid hn; clear hn
 have HL := Lib.hid h; clear h
 have HM := Lib.hid h'; clear h'
 go_enter Tryz.func37, Tryz.ntmps37
 go_wp2
 go_loopw [5] (fun i wr => ∃ k : Nat, k ≤ n' ∧ i = .int .i64 k ∧ Below w.heap.size w wr ∧ Hid (matchB l (ms.drop k) = matchB l ms)) (fun i _ => n' - (intOf i).toNat)
 case atStart => exact ⟨0, Nat.zero_le _, rfl, Below.refl _ _, rfl⟩
 case round =>
  obtain ⟨k, hk, rfl, hbw, HK⟩ := hrel
  have hsz := hbw.size
  by_cases hlt : k < n'
  ·obtain ⟨x, hx⟩ : ∃ x, ms[k]? = some x := ⟨ms[k]'(by rw [← HN.out]; exact hlt), List.getElem?_eq_getElem _⟩
   obtain ⟨b, off, rfl, hb, c0, c1, c2⟩ := (HM.out.below hbw).at_ k x hx
   have HX := Lib.hid hx; clear hx
   have HLr := Lib.hid (HL.out.below hbw)
   have HB := Lib.hid hbw; clear hbw
   obtain ⟨x0, x1, x2⟩ := x
   go_wp2
   go_region_held3 (fun w' => w'.cell? ⟨b, off + k * 3, none⟩ = some (.string x0) ∧ w'.cell? ⟨b, off + k * 3 + 1, none⟩ = some (.int .i64 x1) ∧ w'.cell? ⟨b, off + k * 3 + 2, none⟩ = some (.string x2)) (first | go_keep | exact ⟨bat hb1 hb c0, bat hb1 hb c1, bat hb1 hb c2⟩)
    (first | (go_at_call 57; refine (rget_any _ _ _ base l _ _ (by exact HLr.out)).mono ?_; rintro e w' ⟨rfl, rfl⟩) | (go_at_call 56; refine (holds_any (x0, x1, x2) _ _).mono ?_; rintro e w' ⟨rfl, hb1⟩))
   have HB1 : Hid (Below w.heap.size w w') := HB.out.drew.trans (hb1.mono hsz)
   clear hb1
   go_wp2
   ·have q : (!holdsB (x0, x1, x2) (getL l x0)) = true := by assumption
    go_ret
    exact ⟨ret_bool (by rw [← HK.out, matchB_no HX.out (by simpa using q)]), HB1.out⟩
   ·have q : (!holdsB (x0, x1, x2) (getL l x0)) = false := by assumption
    go_roundw
    case rel => exact ⟨k + 1, by omega, by go_num, HB1.out, (matchB_yes HX.out (by simpa using q)).symm.trans HK.out⟩
    case measure => simp [intOf]; omega
  ·go_wp2
   go_ret
   exact ⟨ret_bool (by rw [← HK.out, List.drop_eq_nil_of_le (by rw [← HN.out]; omega)]; rfl), hbw⟩
set_option maxHeartbeats 1000000 in
theorem match_any (A : Option Addr) (n c : Nat) (A' : Option Addr) (n' c' base : Nat) (l : List Lab) (ms : List Mat) (w : World) (h : Labs w base (.slice A n c) l) (h' : Mats w base (.slice A' n' c') ms) :
  Calls Tryz.prog 19 #[.slice A n c, .slice A' n' c'] w fun e w' => e = .returned (.bool (matchB l ms)) ∧ Below w.heap.size w w' := by
 obtain ⟨hn, hm⟩ := h'.len
 have HN := Lib.hid hn; clear hn
 have HL := Lib.hid h; clear h
 have HM := Lib.hid h'; clear h'
 go_enter Tryz.func19, Tryz.ntmps19
 go_wp2
 go_loopw [11] (fun i wr => ∃ k : Nat, k ≤ n' ∧ i = .int .i64 k ∧ Below w.heap.size w wr ∧ Hid (matchB l (ms.drop k) = matchB l ms)) (fun i _ => n' - (intOf i).toNat)
 case atStart => exact ⟨0, Nat.zero_le _, rfl, Below.refl _ _, rfl⟩
 case round =>
  obtain ⟨k, hk, rfl, hbw, HK⟩ := hrel
  have hsz := hbw.size
  by_cases hlt : k < n'
  ·obtain ⟨x, hx⟩ : ∃ x, ms[k]? = some x := ⟨ms[k]'(by rw [← HN.out]; exact hlt), List.getElem?_eq_getElem _⟩
   obtain ⟨b, off, rfl, hb, c0, c1, c2⟩ := (HM.out.below hbw).at_ k x hx
   have HX := Lib.hid hx; clear hx
   have HLr := Lib.hid (HL.out.below hbw)
   have HB := Lib.hid hbw; clear hbw
   obtain ⟨x0, x1, x2⟩ := x
   by_cases h0 : x1 = 0
   ·subst h0
    have E : Hid (holdsB (x0, 0, x2) (getL l x0) = ((getL l x0).toList == x2.toList)) := by rfl
    go_wp2_with (first | (go_at_call 34; refine (get_any _ _ _ base l _ _ (by exact HLr.out.below ((Below.refl _ _).alloc (Nat.le_refl _) _))).mono ?_; rintro e w' ⟨rfl, hb1⟩; obtain ⟨hc1, hf1⟩ := bcell hb1; have hz1 := hb1.size; have HB2 : Hid (Below w.heap.size w w') := (HB.out.alloc hsz _).trans (hb1.mono (by simp; omega)); clear hb1) | (go_at_call 35; refine (pref_any _ _ _).mono ?_; rintro e w' ⟨rfl, rfl⟩))
    ·have q : (!(getL l x0).toList == x2.toList) = true := by assumption
     go_ret
     exact ⟨ret_bool (by rw [← HK.out, matchB_no HX.out (by rw [E.out]; simpa using q)]), HB2.out⟩
    ·have q : (!(getL l x0).toList == x2.toList) = false := by assumption
     go_roundw
     case rel => exact ⟨k + 1, by omega, by go_num, HB2.out, (matchB_yes HX.out (by rw [E.out]; simpa using q)).symm.trans HK.out⟩
     case measure => simp [intOf]; omega
   by_cases h1 : x1 = 1
   ·subst h1
    have E : Hid (holdsB (x0, 1, x2) (getL l x0) = (!(getL l x0).toList == x2.toList)) := by rfl
    go_wp2_with (first | (go_at_call 34; refine (get_any _ _ _ base l _ _ (by exact HLr.out.below ((Below.refl _ _).alloc (Nat.le_refl _) _))).mono ?_; rintro e w' ⟨rfl, hb1⟩; obtain ⟨hc1, hf1⟩ := bcell hb1; have hz1 := hb1.size; have HB2 : Hid (Below w.heap.size w w') := (HB.out.alloc hsz _).trans (hb1.mono (by simp; omega)); clear hb1) | (go_at_call 35; refine (pref_any _ _ _).mono ?_; rintro e w' ⟨rfl, rfl⟩))
    ·have q : ((getL l x0).toList == x2.toList) = true := by assumption
     go_ret
     exact ⟨ret_bool (by rw [← HK.out, matchB_no HX.out (by rw [E.out]; simpa using q)]), HB2.out⟩
    ·have q : ((getL l x0).toList == x2.toList) = false := by assumption
     go_roundw
     case rel => exact ⟨k + 1, by omega, by go_num, HB2.out, (matchB_yes HX.out (by rw [E.out]; simpa using q)).symm.trans HK.out⟩
     case measure => simp [intOf]; omega
   by_cases h2 : x1 = 2
   ·subst h2
    have E : Hid (holdsB (x0, 2, x2) (getL l x0) = prefB (getL l x0) x2) := by rfl
    go_wp2_with (first | (go_at_call 34; refine (get_any _ _ _ base l _ _ (by exact HLr.out.below ((Below.refl _ _).alloc (Nat.le_refl _) _))).mono ?_; rintro e w' ⟨rfl, hb1⟩; obtain ⟨hc1, hf1⟩ := bcell hb1; have hz1 := hb1.size; have HB2 : Hid (Below w.heap.size w w') := (HB.out.alloc hsz _).trans (hb1.mono (by simp; omega)); clear hb1) | (go_at_call 35; refine (pref_any _ _ _).mono ?_; rintro e w' ⟨rfl, rfl⟩))
    ·have q : (!prefB (getL l x0) x2) = true := by assumption
     go_ret
     exact ⟨ret_bool (by rw [← HK.out, matchB_no HX.out (by rw [E.out]; simpa using q)]), HB2.out⟩
    ·have q : (!prefB (getL l x0) x2) = false := by assumption
     go_roundw
     case rel => exact ⟨k + 1, by omega, by go_num, HB2.out, (matchB_yes HX.out (by rw [E.out]; simpa using q)).symm.trans HK.out⟩
     case measure => simp [intOf]; omega
   ·have E : Hid (holdsB (x0, x1, x2) (getL l x0) = false) := by
     show (if x1 = 0 then _ else if x1 = 1 then _ else if x1 = 2 then _ else _) = _
     rw [if_neg h0, if_neg h1, if_neg h2]
    have h0' : (x1 == 0) = false := by simpa using h0
    have h1' : (x1 == 1) = false := by simpa using h1
    have h2' : (x1 == 2) = false := by simpa using h2
    clear h0 h1 h2
    go_wp2_with (first | (go_at_call 34; refine (get_any _ _ _ base l _ _ (by exact HLr.out.below ((Below.refl _ _).alloc (Nat.le_refl _) _))).mono ?_; rintro e w' ⟨rfl, hb1⟩; obtain ⟨hc1, hf1⟩ := bcell hb1; have hz1 := hb1.size; have HB2 : Hid (Below w.heap.size w w') := (HB.out.alloc hsz _).trans (hb1.mono (by simp; omega)); clear hb1) | (go_at_call 35; refine (pref_any _ _ _).mono ?_; rintro e w' ⟨rfl, rfl⟩))
    go_ret
    exact ⟨ret_bool (by rw [← HK.out, matchB_no HX.out E.out]), HB2.out⟩
  ·go_wp2
   go_ret
   exact ⟨ret_bool (by rw [← HK.out, List.drop_eq_nil_of_le (by rw [← HN.out]; omega)]; rfl), hbw⟩
end
end Go.Proofs.YtpgdijbfkahepaaGreatDoor
