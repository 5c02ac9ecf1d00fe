/- Contracts, packed: Str2 Qf Ka. -/
import Derived.Test.YtpgdijbfkahepaaGreatDoorPd1
import Derived.Test.YtpgdijbfkahepaaGreatDoorPd2
import Derived.RegionTactic
import Derived.ChangeAlike
import Derived.Lib.Bytealg
set_option linter.unusedVariables false
set_option linter.unusedSimpArgs false
namespace Go.Proofs.YtpgdijbfkahepaaGreatDoor
section
open Go.RowKit
theorem value_next {s : ByteArray} {k : Nat} {hk : k < s.size} (h : ∀ j (hj : j < s.size), j < k → vlB s[j].toNat = true) (h' : vlB s[k].toNat = true) :
  Hid (∀ j (hj : j < s.size), j < k + 1 → vlB s[j].toNat = true) := by
 intro j hj hlt
 rcases Nat.lt_or_ge j k with h1 | h1
 ·exact h j hj h1
 ·obtain rfl : j = k := by omega
  exact h'
theorem decode_ge (s : ByteArray) (pos : Nat) (hp : pos < s.size) (h : ¬ s[pos].toNat < 128) : 128 ≤ (Utf8.decode s pos).1 := by
 have e : s.get! (pos + 0) = s[pos] := get!_of s pos hp
 simp only [Utf8.decode, e, h, if_false]
 repeat' split
 all_goals simp_all [Utf8.runeError]
 all_goals omega
theorem vl_cases (c : Nat) : (c < 33 ∧ vlB c = false) ∨ (33 ≤ c ∧ 126 < c ∧ vlB c = false) ∨ (33 ≤ c ∧ c ≤ 126 ∧ ((c : Int) == 34) = true ∧ vlB c = false) ∨ (33 ≤ c ∧ c ≤ 126 ∧ ((c : Int) == 34) = false ∧ ((c : Int) == 92) = true ∧ vlB c = false) ∨ (33 ≤ c ∧ c ≤ 126 ∧ ((c : Int) == 34) = false ∧ ((c : Int) == 92) = false ∧ ((c : Int) == 44) = true ∧ vlB c = false) ∨ (33 ≤ c ∧ c ≤ 126 ∧ ((c : Int) == 34) = false ∧ ((c : Int) == 92) = false ∧ ((c : Int) == 44) = false ∧ ((c : Int) == 123) = true ∧ vlB c = false) ∨ (33 ≤ c ∧ c ≤ 126 ∧ ((c : Int) == 34) = false ∧ ((c : Int) == 92) = false ∧ ((c : Int) == 44) = false ∧ ((c : Int) == 123) = false ∧ ((c : Int) == 125) = true ∧ vlB c = false) ∨ (33 ≤ c ∧ c ≤ 126 ∧ ((c : Int) == 34) = false ∧ ((c : Int) == 92) = false ∧ ((c : Int) == 44) = false ∧ ((c : Int) == 123) = false ∧ ((c : Int) == 125) = false ∧ vlB c = true) := by
 by_cases h1 : c < 33
 ·exact .inl ⟨h1, by simp [vlB]; omega⟩
 by_cases h2 : 126 < c
 ·exact .inr (.inl ⟨by omega, h2, by simp [vlB]; omega⟩)
 by_cases g34 : c = 34
 ·subst g34; exact .inr (.inr (.inl ⟨by omega, by omega, by simp, by simp [vlB]⟩))
 by_cases g92 : c = 92
 ·subst g92; exact .inr (.inr (.inr (.inl ⟨by omega, by omega, by simp, by simp, by simp [vlB]⟩)))
 by_cases g44 : c = 44
 ·subst g44; exact .inr (.inr (.inr (.inr (.inl ⟨by omega, by omega, by simp, by simp, by simp, by simp [vlB]⟩))))
 by_cases g123 : c = 123
 ·subst g123; exact .inr (.inr (.inr (.inr (.inr (.inl ⟨by omega, by omega, by simp, by simp, by simp, by simp, by simp [vlB]⟩)))))
 by_cases g125 : c = 125
 ·subst g125; exact .inr (.inr (.inr (.inr (.inr (.inr (.inl ⟨by omega, by omega, by simp, by simp, by simp, by simp, by simp, by simp [vlB]⟩))))))
 exact .inr (.inr (.inr (.inr (.inr (.inr (.inr (⟨by omega, by omega, by simp; omega, by simp; omega, by simp; omega, by simp; omega, by simp; omega, by simp [vlB, g34, g92, g44, g123, g125]; omega⟩)))))))
set_option maxHeartbeats 1000000 in
theorem rvalue_any (s : ByteArray) (w : World) (hs : s.size ≤ maxLen) :
  Calls Tryz.prog 85 #[.string s] w fun e w' => e = .returned (.bool (valueB s)) ∧ w = w' := by
 unfold maxLen at hs
 by_cases h2 : 16 < s.size
 ·have E := Lib.hid (valueB_long h2)
  go_enter Tryz.func85, Tryz.ntmps85
  go_wp2
  go_ret
  exact ⟨ret_bool (by rw [E.out]), rfl⟩
 go_enter Tryz.func85, Tryz.ntmps85
 go_wp2
 go_loop [3] (fun i => ∃ k : Nat, k ≤ s.size ∧ i = .int .i64 k ∧ Hid (∀ j (hj : j < s.size), j < k → vlB s[j].toNat = true)) (fun i => s.size - (intOf i).toNat)
 case atStart => exact ⟨0, Nat.zero_le _, rfl, fun j hj h => absurd h (by omega)⟩
 case round =>
  obtain ⟨k, hk, rfl, HK⟩ := hrel
  by_cases hlt : k < s.size
  ·rcases vl_cases s[k].toNat with ⟨c1, hv⟩ | ⟨c1, c2, hv⟩ | ⟨c1, c2, g34, hv⟩ | ⟨c1, c2, g34, g92, hv⟩ | ⟨c1, c2, g34, g92, g44, hv⟩ | ⟨c1, c2, g34, g92, g44, g123, hv⟩ | ⟨c1, c2, g34, g92, g44, g123, g125, hv⟩ | ⟨c1, c2, g34, g92, g44, g123, g125, hv⟩
   ·have HV := Lib.hid (valueB_false k hlt hv); clear hv
    go_wp2
    go_ret
    exact ⟨ret_bool (by rw [HV.out]), rfl⟩
   ·have HV := Lib.hid (valueB_false k hlt hv); clear hv
    go_wp2
    go_ret
    exact ⟨ret_bool (by rw [HV.out]), rfl⟩
   ·have HV := Lib.hid (valueB_false k hlt hv); clear hv
    go_wp2
    go_ret
    exact ⟨ret_bool (by rw [HV.out]), rfl⟩
   ·have HV := Lib.hid (valueB_false k hlt hv); clear hv
    go_wp2
    go_ret
    exact ⟨ret_bool (by rw [HV.out]), rfl⟩
   ·have HV := Lib.hid (valueB_false k hlt hv); clear hv
    go_wp2
    go_ret
    exact ⟨ret_bool (by rw [HV.out]), rfl⟩
   ·have HV := Lib.hid (valueB_false k hlt hv); clear hv
    go_wp2
    go_ret
    exact ⟨ret_bool (by rw [HV.out]), rfl⟩
   ·have HV := Lib.hid (valueB_false k hlt hv); clear hv
    go_wp2
    go_ret
    exact ⟨ret_bool (by rw [HV.out]), rfl⟩
   ·have HV := Lib.hid hv; clear hv
    go_wp2
    go_round
    case rel => exact ⟨k + 1, by omega, by go_num, value_next HK.out HV.out⟩
    case measure => simp [intOf]; omega
  ·go_wp2
   go_ret
   exact ⟨ret_bool (by rw [valueB_true (by omega) (fun j hj => HK.out j hj (by omega))]), rfl⟩
set_option maxHeartbeats 1000000 in
theorem value_any (s : ByteArray) (w : World) (hs : s.size ≤ maxLen) :
  Calls Tryz.prog 108 #[.string s] w fun e w' => e = .returned (.bool (valueB s)) ∧ Below w.heap.size w w' := by
 unfold maxLen at hs
 by_cases h2 : 16 < s.size
 ·have E := Lib.hid (valueB_long h2)
  go_enter Tryz.func108, Tryz.ntmps108
  go_wp2
  go_ret
  exact ⟨ret_bool (by rw [E.out]), Below.refl _ _⟩
 go_enter Tryz.func108, Tryz.ntmps108
 go_wp2
 go_loopw [] (fun wr => ∃ k : Nat, k ≤ s.size ∧ wr = w.iter s k ∧ Hid (∀ j (hj : j < s.size), j < k → vlB s[j].toNat = true)) (fun wr => s.size - wr.iterPos w.heap.size)
 case atStart => exact ⟨0, Nat.zero_le _, rfl, fun j hj h => absurd h (by omega)⟩
 case round =>
  obtain ⟨k, hk, rfl, HK⟩ := hrel
  by_cases hlt : k < s.size
  ·by_cases ha : s[k].toNat < 128
   ·have hnx := fun ty => run_next_ascii (P := Tryz.prog) w s k ty hlt ha
    rcases vl_cases s[k].toNat with ⟨c1, hv⟩ | ⟨c1, c2, hv⟩ | ⟨c1, c2, g34, hv⟩ | ⟨c1, c2, g34, g92, hv⟩ | ⟨c1, c2, g34, g92, g44, hv⟩ | ⟨c1, c2, g34, g92, g44, g123, hv⟩ | ⟨c1, c2, g34, g92, g44, g123, g125, hv⟩ | ⟨c1, c2, g34, g92, g44, g123, g125, hv⟩
    ·have HV := Lib.hid (valueB_false k hlt hv); clear hv
     go_wp2
     go_ret
     exact ⟨ret_bool (by rw [HV.out]), (Below.refl _ _).alloc (Nat.le_refl _) _⟩
    ·have HV := Lib.hid (valueB_false k hlt hv); clear hv
     go_wp2
     go_ret
     exact ⟨ret_bool (by rw [HV.out]), (Below.refl _ _).alloc (Nat.le_refl _) _⟩
    ·have HV := Lib.hid (valueB_false k hlt hv); clear hv
     go_wp2
     go_ret
     exact ⟨ret_bool (by rw [HV.out]), (Below.refl _ _).alloc (Nat.le_refl _) _⟩
    ·have HV := Lib.hid (valueB_false k hlt hv); clear hv
     go_wp2
     go_ret
     exact ⟨ret_bool (by rw [HV.out]), (Below.refl _ _).alloc (Nat.le_refl _) _⟩
    ·have HV := Lib.hid (valueB_false k hlt hv); clear hv
     go_wp2
     go_ret
     exact ⟨ret_bool (by rw [HV.out]), (Below.refl _ _).alloc (Nat.le_refl _) _⟩
    ·have HV := Lib.hid (valueB_false k hlt hv); clear hv
     go_wp2
     go_ret
     exact ⟨ret_bool (by rw [HV.out]), (Below.refl _ _).alloc (Nat.le_refl _) _⟩
    ·have HV := Lib.hid (valueB_false k hlt hv); clear hv
     go_wp2
     go_ret
     exact ⟨ret_bool (by rw [HV.out]), (Below.refl _ _).alloc (Nat.le_refl _) _⟩
    ·have HV := Lib.hid hv; clear hv
     go_wp2
     go_roundw
     case rel => exact ⟨k + 1, by omega, rfl, value_next HK.out HV.out⟩
     case measure => simp; omega
   ·have hd := decode_ge s k hlt ha
    have hnx := fun ty => run_next_any (P := Tryz.prog) w s k ty hlt
    have HV := Lib.hid (valueB_false k hlt (by simp [vlB]; omega))
    go_wp2
    go_ret
    exact ⟨ret_bool (by rw [HV.out]), (Below.refl _ _).alloc (Nat.le_refl _) _⟩
  ·have hnx := fun ty => run_next_end (P := Tryz.prog) w s k ty hlt
   go_wp2
   go_ret
   exact ⟨ret_bool (by rw [valueB_true (by omega) (fun j hj => HK.out j hj (by omega))]), (Below.refl _ _).alloc (Nat.le_refl _) _⟩
set_option maxHeartbeats 1000000 in
theorem name_any (s : ByteArray) (w : World) (hs : s.size ≤ maxLen) :
  Calls Tryz.prog 96 #[.string s] w fun e w' => e = .returned (.bool (nameB s)) ∧ Below w.heap.size w w' := by
 unfold maxLen at hs
 by_cases h1 : s.size < 1
 ·have E := Lib.hid (nameB_short (.inl h1))
  go_enter Tryz.func96, Tryz.ntmps96
  go_wp2
  go_ret
  exact ⟨ret_bool (by rw [E.out]), Below.refl _ _⟩
 by_cases h2 : 16 < s.size
 ·have E := Lib.hid (nameB_short (.inr h2))
  go_enter Tryz.func96, Tryz.ntmps96
  go_wp2
  go_ret
  exact ⟨ret_bool (by rw [E.out]), Below.refl _ _⟩
 go_enter Tryz.func96, Tryz.ntmps96
 go_wp2
 go_loopw [] (fun wr => ∃ k : Nat, k ≤ s.size ∧ wr = w.iter s k ∧ Hid (∀ j (hj : j < s.size), j < k → nmB (j == 0) s[j].toNat = true)) (fun wr => s.size - wr.iterPos w.heap.size)
 case atStart => exact ⟨0, Nat.zero_le _, rfl, fun j hj h => absurd h (by omega)⟩
 case round =>
  obtain ⟨k, hk, rfl, HK⟩ := hrel
  by_cases hlt : k < s.size
  ·by_cases ha : s[k].toNat < 128
   ·have hnx := fun ty => run_next_ascii (P := Tryz.prog) w s k ty hlt ha
    by_cases hl : lettB s[k].toNat = true
    ·have HN := Lib.hid (nm_1 (k == 0) hl)
     have hl1 : 97 ≤ s[k].toNat ∧ s[k].toNat ≤ 122 := by simpa [lettB] using hl
     obtain ⟨hl2, hl3⟩ := hl1
     clear hl
     go_wp2
     all_goals
      go_roundw
      case rel => exact ⟨k + 1, by omega, rfl, name_next HK.out HN.out⟩
      case measure => simp; omega
    have hl' : lettB s[k].toNat = false := by simpa using hl
    have hl2 : s[k].toNat < 97 ∨ 122 < s[k].toNat := by simp [lettB] at hl'; omega
    clear hl
    by_cases h0 : k = 0
    ·subst h0
     have HN := Lib.hid (nameB_false 0 hlt (nm_2 hl'))
     clear hl'
     rcases hl2 with hl2 | hl2
     ·go_wp2
      all_goals
       go_ret
       exact ⟨ret_bool (by rw [HN.out]), (Below.refl _ _).alloc (Nat.le_refl _) _⟩
     ·have hl3 : decide ((s[0].toNat : Int) ≤ 122) = false := by simp; omega
      go_wp2
      all_goals
       go_ret
       exact ⟨ret_bool (by rw [HN.out]), (Below.refl _ _).alloc (Nat.le_refl _) _⟩
    have h0' : ((k : Int) == 0) = false := by simp; omega
    rcases oth_cases s[k].toNat with ⟨hb, hc, ho⟩ | ⟨hb, hc, hd, ho⟩ | ⟨hd, ho, hab⟩
    ·have HN := Lib.hid (nm_3 h0 ho); clear ho hl' hl2
     have hn95 : ((s[k].toNat : Int) != 95) = true := by simp; omega
     go_wp2
     all_goals
      go_roundw
      case rel => exact ⟨k + 1, by omega, rfl, name_next HK.out HN.out⟩
      case measure => simp; omega
    ·have HN := Lib.hid (nm_3 h0 ho); clear ho hl' hl2
     have hn95 : ((s[k].toNat : Int) != 95) = false := by simpa [bne] using hd
     have hu : s[k].toNat < 97 := by simp at hd; omega
     go_wp2
     all_goals
      go_roundw
      case rel => exact ⟨k + 1, by omega, rfl, name_next HK.out HN.out⟩
      case measure => simp; omega
    ·have HN := Lib.hid (nameB_false k hlt (nm_4 hl' ho)); clear ho hl'
     have hn95 : ((s[k].toNat : Int) != 95) = true := by simpa [bne] using hd
     rcases hab with hb | hb
     ·go_wp2
      all_goals
       go_ret
       exact ⟨ret_bool (by rw [HN.out]), (Below.refl _ _).alloc (Nat.le_refl _) _⟩
     ·rcases hl2 with hl2 | hl2
      ·go_wp2
       all_goals
        go_ret
        exact ⟨ret_bool (by rw [HN.out]), (Below.refl _ _).alloc (Nat.le_refl _) _⟩
      ·have hl3 : decide ((s[k].toNat : Int) ≤ 122) = false := by simp; omega
       go_wp2
       all_goals
        go_ret
        exact ⟨ret_bool (by rw [HN.out]), (Below.refl _ _).alloc (Nat.le_refl _) _⟩
   ·have hd := decode_ge s k hlt ha
    have hnx := fun ty => run_next_any (P := Tryz.prog) w s k ty hlt
    have HN := Lib.hid (nameB_false k hlt (nm_4 (by simp [lettB]; omega) (by simp [othB]; omega)))
    have hl3 : decide (((Utf8.decode s k).1 : Int) ≤ 122) = false := by simp; omega
    have hn95 : (((Utf8.decode s k).1 : Int) != 95) = true := by simp; omega
    by_cases h0 : k = 0
    ·subst h0
     go_wp2
     all_goals
      go_ret
      exact ⟨ret_bool (by rw [HN.out]), (Below.refl _ _).alloc (Nat.le_refl _) _⟩
    ·have h0' : ((k : Int) == 0) = false := by simp; omega
     go_wp2
     all_goals
      go_ret
      exact ⟨ret_bool (by rw [HN.out]), (Below.refl _ _).alloc (Nat.le_refl _) _⟩
  ·have hnx := fun ty => run_next_end (P := Tryz.prog) w s k ty hlt
   go_wp2
   go_ret
   exact ⟨ret_bool (by rw [nameB_true (by omega) (by omega) (fun j hj => HK.out j hj (by omega))]), (Below.refl _ _).alloc (Nat.le_refl _) _⟩
end
section
open Go.RowKit FracM
/-- the call computes v and moves no more than the count of draws -/
def Quiet (v : Value) (w : World) (e : Ending) (w' : World) : Prop := e = .returned v ∧ ∃ n, w' = w.drewN n
theorem abs_any (n : Int) (w : World) (h1 : -9223372036854775807 ≤ n) (h2 : n ≤ 9223372036854775807) :
  Calls Tryz.prog 107 #[.int .i64 n] w fun e w' => e = .returned (.int .i64 (n.natAbs : Int)) ∧ w = w' := by
 by_cases h : n < 0
 ·go_enter Tryz.func107, Tryz.ntmps107
  go_wp2
  go_ret
  exact ⟨ret_int (by omega), rfl⟩
 ·go_enter Tryz.func107, Tryz.ntmps107
  go_wp2
  go_ret
  exact ⟨ret_int (by omega), rfl⟩
def GcdRel (k : IntKind) (a b : Nat) (w : World) (u v : Value) (wr : World) : Prop :=
 ∃ x y : Nat, u = .int k x ∧ v = .int k y ∧ x ≤ 9223372036854775807 ∧ y ≤ 9223372036854775807 ∧ Nat.gcd x y = Nat.gcd a b ∧ ∃ n, wr = w.drewN n
theorem gcd_step {x y a b : Nat} (h : Nat.gcd x y = Nat.gcd a b) : Nat.gcd y (x % y) = Nat.gcd a b := by
 rw [← h, Nat.gcd_comm y, FracM.gcd_mod_left]
set_option maxHeartbeats 400000 in
theorem gcd_any (a b : Nat) (w : World) (h1 : a ≤ 9223372036854775807) (h2 : b ≤ 9223372036854775807) :
  Calls Tryz.prog 106 #[.int .i64 a, .int .i64 b] w (Quiet (.int .i64 (Nat.gcd a b : Nat)) w) := by
 go_enter Tryz.func106, Tryz.ntmps106
 go_wp2
 go_loopw [0, 1] (fun u v wr => GcdRel .i64 a b w u v wr) (fun _ v _ => (intOf v).toNat)
 case atStart => exact ⟨a, b, rfl, rfl, h1, h2, rfl, 0, rfl⟩
 case round =>
  obtain ⟨x, y, rfl, rfl, hx, hy, hg, n, rfl⟩ := hrel
  have HG := Lib.hid hg; clear hg
  by_cases hz : y = 0
  ·subst hz
   have HG2 : Hid (x = Nat.gcd a b) := by show x = Nat.gcd a b; simpa using HG.out
   clear HG
   go_wp2
   go_ret
   exact ⟨ret_int (by rw [← HG2.out]), n, rfl⟩
  ·have hz' : ((y : Int) != 0) = true := by simp; omega
   have hz2 : ((y : Int) == 0) = false := by simp; omega
   have hy1 : 1 ≤ (y : Int) := by omega
   have hlt : x % y < y := Nat.mod_lt _ (by omega)
   have hle : x % y ≤ 9223372036854775807 := by omega
   go_wp2
   go_region
   all_goals
    go_wp2
    go_roundw
    case rel => exact ⟨y, x % y, rfl, by go_num, hy, hle, gcd_step HG.out, n + 1, rfl⟩
    case measure => simp [intOf]; omega
theorem abs_same (n : Int) (w : World) (h1 : -9223372036854775807 ≤ n) (h2 : n ≤ 9223372036854775807) :
  Calls Tryz.prog 107 #[.int .i64 n] w fun e w' => e = .returned (.int .i64 (n.natAbs : Int)) ∧ w' = w := (abs_any n w h1 h2).mono fun _ _ ⟨a, b⟩ => ⟨a, b.symm⟩
theorem gcd_q (a b : Nat) (w : World) (h1 : a ≤ 9223372036854775807) (h2 : b ≤ 9223372036854775807) :
  Calls Tryz.prog 106 #[.int .i64 a, .int .i64 b] w fun e w' => e = .returned (.int .i64 (Nat.gcd a b : Nat)) ∧ ∃ n, w' = w.drewN n := gcd_any a b w h1 h2
theorem valid_no {n d : Int} (h : d < 1 ∨ 4611686018427387904 < d ∨ n < -4611686018427387904 ∨ 4611686018427387904 < n) : validB n d = false := by
 rw [Bool.eq_false_iff]; intro hv
 obtain ⟨h1, h2, h3, _⟩ := valid_iff.1 hv
 unfold M at *; omega
theorem valid_yes {n : Int} {d : Nat} (h1 : 1 ≤ d) (h2 : d ≤ 4611686018427387904) (h3 : n.natAbs ≤ 4611686018427387904) : validB n d = decide (((Nat.gcd n.natAbs d : Nat) : Int) = 1) := by
 rw [Bool.eq_iff_iff, valid_iff, decide_eq_true_iff]
 unfold M
 rw [Int.natAbs_natCast]
 omega
set_option maxHeartbeats 400000 in
theorem fvalid_any (n d : Int) (w : World) (l1 : -9223372036854775808 ≤ n) (u1 : n ≤ 9223372036854775807) (l2 : -9223372036854775808 ≤ d) (u2 : d ≤ 9223372036854775807) :
  Calls Tryz.prog 95 #[.agg #[.int .i64 n, .int .i64 d]] w fun e w' => e = .returned (.bool (validB n d)) ∧ Below w.heap.size w w' := by
 by_cases h1 : d < 1
 ·have E := Lib.hid (valid_no (n := n) (d := d) (.inl h1))
  go_enter Tryz.func95, Tryz.ntmps95
  go_wp2
  go_ret
  exact ⟨ret_bool (by rw [E.out]), bel1 _ _⟩
 by_cases h2 : 4611686018427387904 < d
 ·have E := Lib.hid (valid_no (n := n) (d := d) (.inr (.inl h2)))
  go_enter Tryz.func95, Tryz.ntmps95
  go_wp2
  go_ret
  exact ⟨ret_bool (by rw [E.out]), bel1 _ _⟩
 by_cases h3 : n < -4611686018427387904
 ·have E := Lib.hid (valid_no (n := n) (d := d) (.inr (.inr (.inl h3))))
  go_enter Tryz.func95, Tryz.ntmps95
  go_wp2
  go_ret
  exact ⟨ret_bool (by rw [E.out]), bel1 _ _⟩
 by_cases h4 : 4611686018427387904 < n
 ·have E := Lib.hid (valid_no (n := n) (d := d) (.inr (.inr (.inr h4))))
  go_enter Tryz.func95, Tryz.ntmps95
  go_wp2
  go_ret
  exact ⟨ret_bool (by rw [E.out]), bel1 _ _⟩
 obtain ⟨k, rfl⟩ : ∃ k : Nat, d = (k : Int) := ⟨d.toNat, by omega⟩
 have E := Lib.hid (valid_yes (n := n) (d := k) (by omega) (by omega) (by omega))
 go_enter Tryz.func95, Tryz.ntmps95
 go_wp2
 go_quiet (first | (go_at_call 107; exact Calls.quiet_of_same (abs_same _ _ (by omega) (by omega))) | (go_at_call 106; exact Calls.quiet_of (gcd_q _ _ _ (by omega) (by omega))))
 go_wp2
 go_ret
 exact ⟨ret_bool (by rw [E.out]; rfl), bdrew (bel1 _ _) _⟩
end
section
open Go.RowKit
def bsL (l : List UInt8) : ByteArray := ⟨l.toArray⟩
/-- a token: its kind, text, number and offset -/
structure Tok where
 kind : Int
 text : List UInt8
 n : Int
 off : Nat
def letB (c : UInt8) : Bool := decide (97 ≤ c.toNat) && decide (c.toNat ≤ 122)
def digB (c : UInt8) : Bool := decide (48 ≤ c.toNat) && decide (c.toNat ≤ 57)
def wrdB (c : UInt8) : Bool := letB c || digB c || c.toNat == 95
def spcB (c : UInt8) : Bool := c.toNat == 9 || c.toNat == 10 || c.toNat == 13 || c.toNat == 32
def txtB (c : UInt8) : Bool := decide (33 ≤ c.toNat) && decide (c.toNat ≤ 126) && c.toNat != 92 && c.toNat != 44 && c.toNat != 123 && c.toNat != 125
/-- the number that a list of digits adds to another one, up to the bound -/
def numV : Int → List UInt8 → Int
 | n, [] => n
 | n, c :: r => if n ≤ 1073741824 then numV (n * 10 + ((c.toNat : Int) - 48)) r else n
def symN : List UInt8 → Nat
 | [] => 0
 | c :: r =>
  if c.toNat = 43 ∨ c.toNat = 45 ∨ c.toNat = 42 ∨ c.toNat = 47 ∨ c.toNat = 40 ∨ c.toNat = 41 ∨ c.toNat = 123 ∨ c.toNat = 125 ∨ c.toNat = 44 ∨ c.toNat = 46 ∨ c.toNat = 64 ∨ c.toNat = 61 then 1
  else if (c.toNat = 33 ∨ c.toNat = 94) ∧ (r.head?.map UInt8.toNat) = some 61 then 2 else 0
/-- the error, the token at the head of a list (the offset is i), and how many bytes it takes -/
def tokW (i : Nat) (r : List UInt8) : Int × Tok × Nat :=
 (if 16 < (r.takeWhile wrdB).length then 4 else 0, ⟨0, r.takeWhile wrdB, 0, i⟩, (r.takeWhile wrdB).length)
def tokN (i : Nat) (r : List UInt8) : Int × Tok × Nat :=
 (if 1073741824 < numV 0 (r.takeWhile digB) then 5 else 0, ⟨1, r.takeWhile digB, numV 0 (r.takeWhile digB), i⟩, (r.takeWhile digB).length)
def tokT (i : Nat) (r : List UInt8) : Int × Tok × Nat :=
 if Lib.indexByte r.tail 34 < 0 then (2, ⟨0, [], 0, 0⟩, 2)
 else if (r.tail.take (Lib.indexByte r.tail 34).toNat).all txtB then
  (if 16 < Lib.indexByte r.tail 34 then 4 else 0, ⟨2, r.tail.take (Lib.indexByte r.tail 34).toNat, 0, i⟩, (Lib.indexByte r.tail 34).toNat + 2)
 else (2, ⟨0, [], 0, 0⟩, 2)
def tokS (i : Nat) (r : List UInt8) : Int × Tok × Nat :=
 (if symN r = 0 then 2 else 0, ⟨3, r.take (symN r), 0, i⟩, symN r)
def tokM (i : Nat) (c : UInt8) (r : List UInt8) : Int × Tok × Nat :=
 if letB c then tokW i (c :: r) else if digB c then tokN i (c :: r) else if c.toNat = 34 then tokT i (c :: r) else tokS i (c :: r)
/-- the tokens of a list, whose first byte has the offset i; the error; the offset of the end or of the error -/
def lexM : Nat → Nat → List UInt8 → List Tok × Int × Nat
 | 0, i, _ => ([], 0, i)
 | _ + 1, i, [] => ([], 0, i)
 | n + 1, i, c :: r =>
  if spcB c then lexM n (i + 1) r
  else if (tokM i c r).1 = 0 then ((tokM i c r).2.1 :: (lexM n (i + (tokM i c r).2.2) ((c :: r).drop (tokM i c r).2.2)).1, (lexM n (i + (tokM i c r).2.2) ((c :: r).drop (tokM i c r).2.2)).2)
  else ([], (tokM i c r).1, i)
theorem digB_iff (c : UInt8) : digB c = true ↔ 48 ≤ c.toNat ∧ c.toNat ≤ 57 := by unfold digB; simp
theorem tw_pos {f : UInt8 → Bool} {c : UInt8} {r : List UInt8} (h : f c = true) : 0 < ((c :: r).takeWhile f).length := by rw [List.takeWhile_cons, h]; simp
theorem tok_pos {i : Nat} {c : UInt8} {r : List UInt8} (h : (tokM i c r).1 = 0) : 1 ≤ (tokM i c r).2.2 := by
 unfold tokM at *
 by_cases h1 : letB c
 ·rw [if_pos h1]; exact tw_pos (by unfold wrdB; rw [h1]; rfl)
 rw [if_neg h1] at h ⊢
 by_cases h2 : digB c
 ·rw [if_pos h2]; exact tw_pos h2
 rw [if_neg h2] at h ⊢
 by_cases h3 : c.toNat = 34
 ·rw [if_pos h3] at h ⊢
  unfold tokT at *
  split
  ·simp
  ·split <;> simp
 rw [if_neg h3] at h ⊢
 unfold tokS at *
 simp only at h ⊢
 by_cases h4 : symN (c :: r) = 0
 ·rw [if_pos h4] at h; exact absurd h (by decide)
 ·omega
theorem ixb_lt : ∀ (l : List UInt8) (c : UInt8), -1 ≤ Lib.indexByte l c ∧ Lib.indexByte l c < l.length
 | [], c => by unfold Lib.indexByte; exact ⟨by omega, by simp⟩
 | b :: l, c => by
  obtain ⟨h1, h2⟩ := ixb_lt l c
  unfold Lib.indexByte
  split
  ·exact ⟨by omega, by simp⟩
  ·split
   ·exact ⟨by omega, by simp; omega⟩
   ·exact ⟨by omega, by simp; omega⟩
theorem symN_le (l : List UInt8) : symN l ≤ l.length := by
 cases l with
 | nil => simp [symN]
 | cons c r =>
  rw [symN]
  split
  ·simp
  ·split
   ·rename_i h
    cases r with
    | nil => simp at h
    | cons d r => simp
   ·simp
theorem tokW_f (i : Nat) (l : List UInt8) : (tokW i l).2.1.text.length = (tokW i l).2.2 ∧ (tokW i l).2.2 ≤ l.length := ⟨rfl, (List.takeWhile_prefix _).length_le⟩
theorem tokN_f (i : Nat) (l : List UInt8) : (tokN i l).2.1.text.length = (tokN i l).2.2 ∧ (tokN i l).2.2 ≤ l.length := ⟨rfl, (List.takeWhile_prefix _).length_le⟩
theorem tokS_f (i : Nat) (l : List UInt8) : (tokS i l).2.1.text.length = (tokS i l).2.2 ∧ (tokS i l).2.2 ≤ l.length := by
 have := symN_le l
 unfold tokS
 exact ⟨by simp only [List.length_take]; omega, this⟩
theorem tokT_f {i : Nat} {l : List UInt8} (h : (tokT i l).1 = 0) (hl : l ≠ []) : 2 + (tokT i l).2.1.text.length = (tokT i l).2.2 ∧ (tokT i l).2.2 ≤ l.length := by
 have hx := ixb_lt l.tail 34
 have hp : 0 < l.length := List.length_pos_iff.2 hl
 rw [List.length_tail] at hx
 unfold tokT at *
 split
 ·rename_i h1; rw [if_pos h1] at h; simp at h
 ·rename_i h1
  rw [if_neg h1] at h
  split
  ·simp only [List.length_take, List.length_tail]; omega
  ·rename_i h2; rw [if_neg h2] at h; simp at h
/-- more turns do not matter -/
theorem lexM_more : ∀ (n m i : Nat) (l : List UInt8), l.length ≤ n → l.length ≤ m → lexM n i l = lexM m i l := by
 intro n
 induction n with
 | zero => intro m i l h1 h2; obtain rfl := List.eq_nil_of_length_eq_zero (by omega : l.length = 0); cases m <;> simp [lexM]
 | succ n ih =>
  intro m i l h1 h2
  cases l with
  | nil => cases m <;> simp [lexM]
  | cons c r =>
   simp only [List.length_cons] at h1 h2
   obtain ⟨m, rfl⟩ : ∃ k, m = k + 1 := ⟨m - 1, by omega⟩
   rw [lexM, lexM]
   by_cases hs : spcB c
   ·rw [if_pos hs, if_pos hs]; exact ih m _ _ (by omega) (by omega)
   rw [if_neg hs, if_neg hs]
   by_cases he : (tokM i c r).1 = 0
   ·have hp := tok_pos he
    rw [if_pos he, if_pos he, ih m _ _ (by simp; omega) (by simp; omega)]
   ·rw [if_neg he, if_neg he]
end
end Go.Proofs.YtpgdijbfkahepaaGreatDoor
