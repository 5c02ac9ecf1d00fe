/- Contracts, packed: Str2. -/
import Derived.Test.YtkdojgkiclndfaaGreatDoorPz1
set_option linter.unusedVariables false
set_option linter.unusedSimpArgs false
namespace Go.Proofs.YtkdojgkiclndfaaGreatDoor
section
open Go.RowKit
theorem value_next {s : ByteArray} {k : Nat} {hk : k < s.size} (h : ∀ j (hj : j < s.size), j < k → vlB s[j].toNat = true) (h' : vlB s[k].toNat = true) :
  Hid (∀ j (hj : j < s.size), j < k + 1 → vlB s[j].toNat = true) := by
 intro j hj hlt
 rcases Nat.lt_or_ge j k with h1 | h1
 ·exact h j hj h1
 ·obtain rfl : j = k := by omega
  exact h'
theorem decode_ge (s : ByteArray) (pos : Nat) (hp : pos < s.size) (h : ¬ s[pos].toNat < 128) : 128 ≤ (Utf8.decode s pos).1 := by
 have e : s.get! (pos + 0) = s[pos] := get!_of s pos hp
 simp only [Utf8.decode, e, h, if_false]
 repeat' split
 all_goals simp_all [Utf8.runeError]
 all_goals omega
theorem vl_cases (c : Nat) : (c < 33 ∧ vlB c = false) ∨ (33 ≤ c ∧ 126 < c ∧ vlB c = false) ∨ (33 ≤ c ∧ c ≤ 126 ∧ ((c : Int) == 34) = true ∧ vlB c = false) ∨ (33 ≤ c ∧ c ≤ 126 ∧ ((c : Int) == 34) = false ∧ ((c : Int) == 92) = true ∧ vlB c = false) ∨ (33 ≤ c ∧ c ≤ 126 ∧ ((c : Int) == 34) = false ∧ ((c : Int) == 92) = false ∧ ((c : Int) == 44) = true ∧ vlB c = false) ∨ (33 ≤ c ∧ c ≤ 126 ∧ ((c : Int) == 34) = false ∧ ((c : Int) == 92) = false ∧ ((c : Int) == 44) = false ∧ ((c : Int) == 123) = true ∧ vlB c = false) ∨ (33 ≤ c ∧ c ≤ 126 ∧ ((c : Int) == 34) = false ∧ ((c : Int) == 92) = false ∧ ((c : Int) == 44) = false ∧ ((c : Int) == 123) = false ∧ ((c : Int) == 125) = true ∧ vlB c = false) ∨ (33 ≤ c ∧ c ≤ 126 ∧ ((c : Int) == 34) = false ∧ ((c : Int) == 92) = false ∧ ((c : Int) == 44) = false ∧ ((c : Int) == 123) = false ∧ ((c : Int) == 125) = false ∧ vlB c = true) := by
 by_cases h1 : c < 33
 ·exact .inl ⟨h1, by simp [vlB]; omega⟩
 by_cases h2 : 126 < c
 ·exact .inr (.inl ⟨by omega, h2, by simp [vlB]; omega⟩)
 by_cases g34 : c = 34
 ·subst g34; exact .inr (.inr (.inl ⟨by omega, by omega, by simp, by simp [vlB]⟩))
 by_cases g92 : c = 92
 ·subst g92; exact .inr (.inr (.inr (.inl ⟨by omega, by omega, by simp, by simp, by simp [vlB]⟩)))
 by_cases g44 : c = 44
 ·subst g44; exact .inr (.inr (.inr (.inr (.inl ⟨by omega, by omega, by simp, by simp, by simp, by simp [vlB]⟩))))
 by_cases g123 : c = 123
 ·subst g123; exact .inr (.inr (.inr (.inr (.inr (.inl ⟨by omega, by omega, by simp, by simp, by simp, by simp, by simp [vlB]⟩)))))
 by_cases g125 : c = 125
 ·subst g125; exact .inr (.inr (.inr (.inr (.inr (.inr (.inl ⟨by omega, by omega, by simp, by simp, by simp, by simp, by simp, by simp [vlB]⟩))))))
 exact .inr (.inr (.inr (.inr (.inr (.inr (.inr (⟨by omega, by omega, by simp; omega, by simp; omega, by simp; omega, by simp; omega, by simp; omega, by simp [vlB, g34, g92, g44, g123, g125]; omega⟩)))))))
set_option maxHeartbeats 1000000 in
theorem rvalue_any (s : ByteArray) (w : World) (hs : s.size ≤ maxLen) :
  Calls Tryz.prog 144 #[.string s] w fun e w' => e = .returned (.bool (valueB s)) ∧ w = w' := by
 unfold maxLen at hs
 by_cases h2 : 16 < s.size
 ·have E := Lib.hid (valueB_long h2)
  go_enter Tryz.func144, Tryz.ntmps144
  go_wp2
  go_ret
  exact ⟨ret_bool (by rw [E.out]), rfl⟩
 go_enter Tryz.func144, Tryz.ntmps144
 go_wp2
 go_loop [3] (fun i => ∃ k : Nat, k ≤ s.size ∧ i = .int .i64 k ∧ Hid (∀ j (hj : j < s.size), j < k → vlB s[j].toNat = true)) (fun i => s.size - (intOf i).toNat)
 case atStart => exact ⟨0, Nat.zero_le _, rfl, fun j hj h => absurd h (by omega)⟩
 case round =>
  obtain ⟨k, hk, rfl, HK⟩ := hrel
  by_cases hlt : k < s.size
  ·rcases vl_cases s[k].toNat with ⟨c1, hv⟩ | ⟨c1, c2, hv⟩ | ⟨c1, c2, g34, hv⟩ | ⟨c1, c2, g34, g92, hv⟩ | ⟨c1, c2, g34, g92, g44, hv⟩ | ⟨c1, c2, g34, g92, g44, g123, hv⟩ | ⟨c1, c2, g34, g92, g44, g123, g125, hv⟩ | ⟨c1, c2, g34, g92, g44, g123, g125, hv⟩
   ·have HV := Lib.hid (valueB_false k hlt hv); clear hv
    go_wp2
    go_ret
    exact ⟨ret_bool (by rw [HV.out]), rfl⟩
   ·have HV := Lib.hid (valueB_false k hlt hv); clear hv
    go_wp2
    go_ret
    exact ⟨ret_bool (by rw [HV.out]), rfl⟩
   ·have HV := Lib.hid (valueB_false k hlt hv); clear hv
    go_wp2
    go_ret
    exact ⟨ret_bool (by rw [HV.out]), rfl⟩
   ·have HV := Lib.hid (valueB_false k hlt hv); clear hv
    go_wp2
    go_ret
    exact ⟨ret_bool (by rw [HV.out]), rfl⟩
   ·have HV := Lib.hid (valueB_false k hlt hv); clear hv
    go_wp2
    go_ret
    exact ⟨ret_bool (by rw [HV.out]), rfl⟩
   ·have HV := Lib.hid (valueB_false k hlt hv); clear hv
    go_wp2
    go_ret
    exact ⟨ret_bool (by rw [HV.out]), rfl⟩
   ·have HV := Lib.hid (valueB_false k hlt hv); clear hv
    go_wp2
    go_ret
    exact ⟨ret_bool (by rw [HV.out]), rfl⟩
   ·have HV := Lib.hid hv; clear hv
    go_wp2
    go_round
    case rel => exact ⟨k + 1, by omega, by go_num, value_next HK.out HV.out⟩
    case measure => simp [intOf]; omega
  ·go_wp2
   go_ret
   exact ⟨ret_bool (by rw [valueB_true (by omega) (fun j hj => HK.out j hj (by omega))]), rfl⟩
set_option maxHeartbeats 1000000 in
theorem value_any (s : ByteArray) (w : World) (hs : s.size ≤ maxLen) :
  Calls Tryz.prog 148 #[.string s] w fun e w' => e = .returned (.bool (valueB s)) ∧ Below w.heap.size w w' := by
 unfold maxLen at hs
 by_cases h2 : 16 < s.size
 ·have E := Lib.hid (valueB_long h2)
  go_enter Tryz.func148, Tryz.ntmps148
  go_wp2
  go_ret
  exact ⟨ret_bool (by rw [E.out]), Below.refl _ _⟩
 go_enter Tryz.func148, Tryz.ntmps148
 go_wp2
 go_loopw [] (fun wr => ∃ k : Nat, k ≤ s.size ∧ wr = w.iter s k ∧ Hid (∀ j (hj : j < s.size), j < k → vlB s[j].toNat = true)) (fun wr => s.size - wr.iterPos w.heap.size)
 case atStart => exact ⟨0, Nat.zero_le _, rfl, fun j hj h => absurd h (by omega)⟩
 case round =>
  obtain ⟨k, hk, rfl, HK⟩ := hrel
  by_cases hlt : k < s.size
  ·by_cases ha : s[k].toNat < 128
   ·have hnx := fun ty => run_next_ascii (P := Tryz.prog) w s k ty hlt ha
    rcases vl_cases s[k].toNat with ⟨c1, hv⟩ | ⟨c1, c2, hv⟩ | ⟨c1, c2, g34, hv⟩ | ⟨c1, c2, g34, g92, hv⟩ | ⟨c1, c2, g34, g92, g44, hv⟩ | ⟨c1, c2, g34, g92, g44, g123, hv⟩ | ⟨c1, c2, g34, g92, g44, g123, g125, hv⟩ | ⟨c1, c2, g34, g92, g44, g123, g125, hv⟩
    ·have HV := Lib.hid (valueB_false k hlt hv); clear hv
     go_wp2
     go_ret
     exact ⟨ret_bool (by rw [HV.out]), (Below.refl _ _).alloc (Nat.le_refl _) _⟩
    ·have HV := Lib.hid (valueB_false k hlt hv); clear hv
     go_wp2
     go_ret
     exact ⟨ret_bool (by rw [HV.out]), (Below.refl _ _).alloc (Nat.le_refl _) _⟩
    ·have HV := Lib.hid (valueB_false k hlt hv); clear hv
     go_wp2
     go_ret
     exact ⟨ret_bool (by rw [HV.out]), (Below.refl _ _).alloc (Nat.le_refl _) _⟩
    ·have HV := Lib.hid (valueB_false k hlt hv); clear hv
     go_wp2
     go_ret
     exact ⟨ret_bool (by rw [HV.out]), (Below.refl _ _).alloc (Nat.le_refl _) _⟩
    ·have HV := Lib.hid (valueB_false k hlt hv); clear hv
     go_wp2
     go_ret
     exact ⟨ret_bool (by rw [HV.out]), (Below.refl _ _).alloc (Nat.le_refl _) _⟩
    ·have HV := Lib.hid (valueB_false k hlt hv); clear hv
     go_wp2
     go_ret
     exact ⟨ret_bool (by rw [HV.out]), (Below.refl _ _).alloc (Nat.le_refl _) _⟩
    ·have HV := Lib.hid (valueB_false k hlt hv); clear hv
     go_wp2
     go_ret
     exact ⟨ret_bool (by rw [HV.out]), (Below.refl _ _).alloc (Nat.le_refl _) _⟩
    ·have HV := Lib.hid hv; clear hv
     go_wp2
     go_roundw
     case rel => exact ⟨k + 1, by omega, rfl, value_next HK.out HV.out⟩
     case measure => simp; omega
   ·have hd := decode_ge s k hlt ha
    have hnx := fun ty => run_next_any (P := Tryz.prog) w s k ty hlt
    have HV := Lib.hid (valueB_false k hlt (by simp [vlB]; omega))
    go_wp2
    go_ret
    exact ⟨ret_bool (by rw [HV.out]), (Below.refl _ _).alloc (Nat.le_refl _) _⟩
  ·have hnx := fun ty => run_next_end (P := Tryz.prog) w s k ty hlt
   go_wp2
   go_ret
   exact ⟨ret_bool (by rw [valueB_true (by omega) (fun j hj => HK.out j hj (by omega))]), (Below.refl _ _).alloc (Nat.le_refl _) _⟩
set_option maxHeartbeats 1000000 in
theorem name_any (s : ByteArray) (w : World) (hs : s.size ≤ maxLen) :
  Calls Tryz.prog 127 #[.string s] w fun e w' => e = .returned (.bool (nameB s)) ∧ Below w.heap.size w w' := by
 unfold maxLen at hs
 by_cases h1 : s.size < 1
 ·have E := Lib.hid (nameB_short (.inl h1))
  go_enter Tryz.func127, Tryz.ntmps127
  go_wp2
  go_ret
  exact ⟨ret_bool (by rw [E.out]), Below.refl _ _⟩
 by_cases h2 : 16 < s.size
 ·have E := Lib.hid (nameB_short (.inr h2))
  go_enter Tryz.func127, Tryz.ntmps127
  go_wp2
  go_ret
  exact ⟨ret_bool (by rw [E.out]), Below.refl _ _⟩
 go_enter Tryz.func127, Tryz.ntmps127
 go_wp2
 go_loopw [] (fun wr => ∃ k : Nat, k ≤ s.size ∧ wr = w.iter s k ∧ Hid (∀ j (hj : j < s.size), j < k → nmB (j == 0) s[j].toNat = true)) (fun wr => s.size - wr.iterPos w.heap.size)
 case atStart => exact ⟨0, Nat.zero_le _, rfl, fun j hj h => absurd h (by omega)⟩
 case round =>
  obtain ⟨k, hk, rfl, HK⟩ := hrel
  by_cases hlt : k < s.size
  ·by_cases ha : s[k].toNat < 128
   ·have hnx := fun ty => run_next_ascii (P := Tryz.prog) w s k ty hlt ha
    by_cases hl : lettB s[k].toNat = true
    ·have HN := Lib.hid (nm_1 (k == 0) hl)
     have hl1 : 97 ≤ s[k].toNat ∧ s[k].toNat ≤ 122 := by simpa [lettB] using hl
     obtain ⟨hl2, hl3⟩ := hl1
     clear hl
     go_wp2
     all_goals
      go_roundw
      case rel => exact ⟨k + 1, by omega, rfl, name_next HK.out HN.out⟩
      case measure => simp; omega
    have hl' : lettB s[k].toNat = false := by simpa using hl
    have hl2 : s[k].toNat < 97 ∨ 122 < s[k].toNat := by simp [lettB] at hl'; omega
    clear hl
    by_cases h0 : k = 0
    ·subst h0
     have HN := Lib.hid (nameB_false 0 hlt (nm_2 hl'))
     clear hl'
     rcases hl2 with hl2 | hl2
     ·go_wp2
      all_goals
       go_ret
       exact ⟨ret_bool (by rw [HN.out]), (Below.refl _ _).alloc (Nat.le_refl _) _⟩
     ·have hl3 : decide ((s[0].toNat : Int) ≤ 122) = false := by simp; omega
      go_wp2
      all_goals
       go_ret
       exact ⟨ret_bool (by rw [HN.out]), (Below.refl _ _).alloc (Nat.le_refl _) _⟩
    have h0' : ((k : Int) == 0) = false := by simp; omega
    rcases oth_cases s[k].toNat with ⟨hb, hc, ho⟩ | ⟨hb, hc, hd, ho⟩ | ⟨hd, ho, hab⟩
    ·have HN := Lib.hid (nm_3 h0 ho); clear ho hl' hl2
     have hn95 : ((s[k].toNat : Int) != 95) = true := by simp; omega
     go_wp2
     all_goals
      go_roundw
      case rel => exact ⟨k + 1, by omega, rfl, name_next HK.out HN.out⟩
      case measure => simp; omega
    ·have HN := Lib.hid (nm_3 h0 ho); clear ho hl' hl2
     have hn95 : ((s[k].toNat : Int) != 95) = false := by simpa [bne] using hd
     have hu : s[k].toNat < 97 := by simp at hd; omega
     go_wp2
     all_goals
      go_roundw
      case rel => exact ⟨k + 1, by omega, rfl, name_next HK.out HN.out⟩
      case measure => simp; omega
    ·have HN := Lib.hid (nameB_false k hlt (nm_4 hl' ho)); clear ho hl'
     have hn95 : ((s[k].toNat : Int) != 95) = true := by simpa [bne] using hd
     rcases hab with hb | hb
     ·go_wp2
      all_goals
       go_ret
       exact ⟨ret_bool (by rw [HN.out]), (Below.refl _ _).alloc (Nat.le_refl _) _⟩
     ·rcases hl2 with hl2 | hl2
      ·go_wp2
       all_goals
        go_ret
        exact ⟨ret_bool (by rw [HN.out]), (Below.refl _ _).alloc (Nat.le_refl _) _⟩
      ·have hl3 : decide ((s[k].toNat : Int) ≤ 122) = false := by simp; omega
       go_wp2
       all_goals
        go_ret
        exact ⟨ret_bool (by rw [HN.out]), (Below.refl _ _).alloc (Nat.le_refl _) _⟩
   ·have hd := decode_ge s k hlt ha
    have hnx := fun ty => run_next_any (P := Tryz.prog) w s k ty hlt
    have HN := Lib.hid (nameB_false k hlt (nm_4 (by simp [lettB]; omega) (by simp [othB]; omega)))
    have hl3 : decide (((Utf8.decode s k).1 : Int) ≤ 122) = false := by simp; omega
    have hn95 : (((Utf8.decode s k).1 : Int) != 95) = true := by simp; omega
    by_cases h0 : k = 0
    ·subst h0
     go_wp2
     all_goals
      go_ret
      exact ⟨ret_bool (by rw [HN.out]), (Below.refl _ _).alloc (Nat.le_refl _) _⟩
    ·have h0' : ((k : Int) == 0) = false := by simp; omega
     go_wp2
     all_goals
      go_ret
      exact ⟨ret_bool (by rw [HN.out]), (Below.refl _ _).alloc (Nat.le_refl _) _⟩
  ·have hnx := fun ty => run_next_end (P := Tryz.prog) w s k ty hlt
   go_wp2
   go_ret
   exact ⟨ret_bool (by rw [nameB_true (by omega) (by omega) (fun j hj => HK.out j hj (by omega))]), (Below.refl _ _).alloc (Nat.le_refl _) _⟩
end
end Go.Proofs.YtkdojgkiclndfaaGreatDoor
