/- Contracts, packed: Str2 Kc. -/
import Derived.Test.YthoibeajhdhdhaaDoorPn2
import Derived.Test.YthoibeajhdhdhaaDoorPn3
set_option linter.unusedVariables false
set_option linter.unusedSimpArgs false
namespace Go.Proofs.YthoibeajhdhdhaaDoor
section
open Go.RowKit

theorem value_next {s : ByteArray} {k : Nat} {hk : k < s.size} (h : ∀ j (hj : j < s.size), j < k → vlB s[j].toNat = true) (h' : vlB s[k].toNat = true) :
    Hid (∀ j (hj : j < s.size), j < k + 1 → vlB s[j].toNat = true) := by
  intro j hj hlt
  rcases Nat.lt_or_ge j k with h1 | h1
  · exact h j hj h1
  · obtain rfl : j = k := by omega
    exact h'

theorem decode_ge (s : ByteArray) (pos : Nat) (hp : pos < s.size) (h : ¬ s[pos].toNat < 128) : 128 ≤ (Utf8.decode s pos).1 := by
  have e : s.get! (pos + 0) = s[pos] := get!_of s pos hp
  simp only [Utf8.decode, e, h, if_false]
  repeat' split
  all_goals simp_all [Utf8.runeError]
  all_goals omega

theorem vl_cases (c : Nat) : (c < 33 ∧ vlB c = false) ∨ (33 ≤ c ∧ 126 < c ∧ vlB c = false) ∨ (33 ≤ c ∧ c ≤ 126 ∧ ((c : Int) == 34) = true ∧ vlB c = false) ∨ (33 ≤ c ∧ c ≤ 126 ∧ ((c : Int) == 34) = false ∧ ((c : Int) == 92) = true ∧ vlB c = false) ∨ (33 ≤ c ∧ c ≤ 126 ∧ ((c : Int) == 34) = false ∧ ((c : Int) == 92) = false ∧ ((c : Int) == 44) = true ∧ vlB c = false) ∨ (33 ≤ c ∧ c ≤ 126 ∧ ((c : Int) == 34) = false ∧ ((c : Int) == 92) = false ∧ ((c : Int) == 44) = false ∧ ((c : Int) == 123) = true ∧ vlB c = false) ∨ (33 ≤ c ∧ c ≤ 126 ∧ ((c : Int) == 34) = false ∧ ((c : Int) == 92) = false ∧ ((c : Int) == 44) = false ∧ ((c : Int) == 123) = false ∧ ((c : Int) == 125) = true ∧ vlB c = false) ∨ (33 ≤ c ∧ c ≤ 126 ∧ ((c : Int) == 34) = false ∧ ((c : Int) == 92) = false ∧ ((c : Int) == 44) = false ∧ ((c : Int) == 123) = false ∧ ((c : Int) == 125) = false ∧ vlB c = true) := by
  by_cases h1 : c < 33
  · exact .inl ⟨h1, by simp [vlB]; omega⟩
  by_cases h2 : 126 < c
  · exact .inr (.inl ⟨by omega, h2, by simp [vlB]; omega⟩)
  by_cases g34 : c = 34
  · subst g34; exact .inr (.inr (.inl ⟨by omega, by omega, by simp, by simp [vlB]⟩))
  by_cases g92 : c = 92
  · subst g92; exact .inr (.inr (.inr (.inl ⟨by omega, by omega, by simp, by simp, by simp [vlB]⟩)))
  by_cases g44 : c = 44
  · subst g44; exact .inr (.inr (.inr (.inr (.inl ⟨by omega, by omega, by simp, by simp, by simp, by simp [vlB]⟩))))
  by_cases g123 : c = 123
  · subst g123; exact .inr (.inr (.inr (.inr (.inr (.inl ⟨by omega, by omega, by simp, by simp, by simp, by simp, by simp [vlB]⟩)))))
  by_cases g125 : c = 125
  · subst g125; exact .inr (.inr (.inr (.inr (.inr (.inr (.inl ⟨by omega, by omega, by simp, by simp, by simp, by simp, by simp, by simp [vlB]⟩))))))
  exact .inr (.inr (.inr (.inr (.inr (.inr (.inr (⟨by omega, by omega, by simp; omega, by simp; omega, by simp; omega, by simp; omega, by simp; omega, by simp [vlB, g34, g92, g44, g123, g125]; omega⟩)))))))

set_option maxHeartbeats 1000000 in
theorem value_any (s : ByteArray) (w : World) (hs : s.size ≤ maxLen) :
    Calls Tryd.prog 92 #[.string s] w fun e w' => e = .returned (.bool (valueB s)) ∧ Below w.heap.size w w' := by
  unfold maxLen at hs
  by_cases h2 : 16 < s.size
  · have E := Lib.hid (valueB_long h2)
    go_enter Tryd.func92, Tryd.ntmps92
    go_wp2
    go_ret
    exact ⟨ret_bool (by rw [E.out]), Below.refl _ _⟩
  go_enter Tryd.func92, Tryd.ntmps92
  go_wp2
  go_loopw [] (fun wr => ∃ k : Nat, k ≤ s.size ∧ wr = w.iter s k ∧ Hid (∀ j (hj : j < s.size), j < k → vlB s[j].toNat = true)) (fun wr => s.size - wr.iterPos w.heap.size)
  case atStart => exact ⟨0, Nat.zero_le _, rfl, fun j hj h => absurd h (by omega)⟩
  case round =>
    obtain ⟨k, hk, rfl, HK⟩ := hrel
    by_cases hlt : k < s.size
    · by_cases ha : s[k].toNat < 128
      · have hnx := fun ty => run_next_ascii (P := Tryd.prog) w s k ty hlt ha
        rcases vl_cases s[k].toNat with ⟨c1, hv⟩ | ⟨c1, c2, hv⟩ | ⟨c1, c2, g34, hv⟩ | ⟨c1, c2, g34, g92, hv⟩ | ⟨c1, c2, g34, g92, g44, hv⟩ | ⟨c1, c2, g34, g92, g44, g123, hv⟩ | ⟨c1, c2, g34, g92, g44, g123, g125, hv⟩ | ⟨c1, c2, g34, g92, g44, g123, g125, hv⟩
        · have HV := Lib.hid (valueB_false k hlt hv); clear hv
          go_wp2
          go_ret
          exact ⟨ret_bool (by rw [HV.out]), (Below.refl _ _).alloc (Nat.le_refl _) _⟩
        · have HV := Lib.hid (valueB_false k hlt hv); clear hv
          go_wp2
          go_ret
          exact ⟨ret_bool (by rw [HV.out]), (Below.refl _ _).alloc (Nat.le_refl _) _⟩
        · have HV := Lib.hid (valueB_false k hlt hv); clear hv
          go_wp2
          go_ret
          exact ⟨ret_bool (by rw [HV.out]), (Below.refl _ _).alloc (Nat.le_refl _) _⟩
        · have HV := Lib.hid (valueB_false k hlt hv); clear hv
          go_wp2
          go_ret
          exact ⟨ret_bool (by rw [HV.out]), (Below.refl _ _).alloc (Nat.le_refl _) _⟩
        · have HV := Lib.hid (valueB_false k hlt hv); clear hv
          go_wp2
          go_ret
          exact ⟨ret_bool (by rw [HV.out]), (Below.refl _ _).alloc (Nat.le_refl _) _⟩
        · have HV := Lib.hid (valueB_false k hlt hv); clear hv
          go_wp2
          go_ret
          exact ⟨ret_bool (by rw [HV.out]), (Below.refl _ _).alloc (Nat.le_refl _) _⟩
        · have HV := Lib.hid (valueB_false k hlt hv); clear hv
          go_wp2
          go_ret
          exact ⟨ret_bool (by rw [HV.out]), (Below.refl _ _).alloc (Nat.le_refl _) _⟩
        · have HV := Lib.hid hv; clear hv
          go_wp2
          go_roundw
          case rel => exact ⟨k + 1, by omega, rfl, value_next HK.out HV.out⟩
          case measure => simp; omega
      · have hd := decode_ge s k hlt ha
        have hnx := fun ty => run_next_any (P := Tryd.prog) w s k ty hlt
        have HV := Lib.hid (valueB_false k hlt (by simp [vlB]; omega))
        go_wp2
        go_ret
        exact ⟨ret_bool (by rw [HV.out]), (Below.refl _ _).alloc (Nat.le_refl _) _⟩
    · have hnx := fun ty => run_next_end (P := Tryd.prog) w s k ty hlt
      go_wp2
      go_ret
      exact ⟨ret_bool (by rw [valueB_true (by omega) (fun j hj => HK.out j hj (by omega))]), (Below.refl _ _).alloc (Nat.le_refl _) _⟩

set_option maxHeartbeats 1000000 in
theorem name_any (s : ByteArray) (w : World) (hs : s.size ≤ maxLen) :
    Calls Tryd.prog 68 #[.string s] w fun e w' => e = .returned (.bool (nameB s)) ∧ Below w.heap.size w w' := by
  unfold maxLen at hs
  by_cases h1 : s.size < 1
  · have E := Lib.hid (nameB_short (.inl h1))
    go_enter Tryd.func68, Tryd.ntmps68
    go_wp2
    go_ret
    exact ⟨ret_bool (by rw [E.out]), Below.refl _ _⟩
  by_cases h2 : 16 < s.size
  · have E := Lib.hid (nameB_short (.inr h2))
    go_enter Tryd.func68, Tryd.ntmps68
    go_wp2
    go_ret
    exact ⟨ret_bool (by rw [E.out]), Below.refl _ _⟩
  go_enter Tryd.func68, Tryd.ntmps68
  go_wp2
  go_loopw [] (fun wr => ∃ k : Nat, k ≤ s.size ∧ wr = w.iter s k ∧ Hid (∀ j (hj : j < s.size), j < k → nmB (j == 0) s[j].toNat = true)) (fun wr => s.size - wr.iterPos w.heap.size)
  case atStart => exact ⟨0, Nat.zero_le _, rfl, fun j hj h => absurd h (by omega)⟩
  case round =>
    obtain ⟨k, hk, rfl, HK⟩ := hrel
    by_cases hlt : k < s.size
    · by_cases ha : s[k].toNat < 128
      · have hnx := fun ty => run_next_ascii (P := Tryd.prog) w s k ty hlt ha
        by_cases hl : lettB s[k].toNat = true
        · have HN := Lib.hid (nm_1 (k == 0) hl)
          have hl1 : 97 ≤ s[k].toNat ∧ s[k].toNat ≤ 122 := by simpa [lettB] using hl
          obtain ⟨hl2, hl3⟩ := hl1
          clear hl
          go_wp2
          all_goals
            go_roundw
            case rel => exact ⟨k + 1, by omega, rfl, name_next HK.out HN.out⟩
            case measure => simp; omega
        have hl' : lettB s[k].toNat = false := by simpa using hl
        have hl2 : s[k].toNat < 97 ∨ 122 < s[k].toNat := by simp [lettB] at hl'; omega
        clear hl
        by_cases h0 : k = 0
        · subst h0
          have HN := Lib.hid (nameB_false 0 hlt (nm_2 hl'))
          clear hl'
          rcases hl2 with hl2 | hl2
          · go_wp2
            all_goals
              go_ret
              exact ⟨ret_bool (by rw [HN.out]), (Below.refl _ _).alloc (Nat.le_refl _) _⟩
          · have hl3 : decide ((s[0].toNat : Int) ≤ 122) = false := by simp; omega
            go_wp2
            all_goals
              go_ret
              exact ⟨ret_bool (by rw [HN.out]), (Below.refl _ _).alloc (Nat.le_refl _) _⟩
        have h0' : ((k : Int) == 0) = false := by simp; omega
        rcases oth_cases s[k].toNat with ⟨hb, hc, ho⟩ | ⟨hb, hc, hd, ho⟩ | ⟨hd, ho, hab⟩
        · have HN := Lib.hid (nm_3 h0 ho); clear ho hl' hl2
          have hn95 : ((s[k].toNat : Int) != 95) = true := by simp; omega
          go_wp2
          all_goals
            go_roundw
            case rel => exact ⟨k + 1, by omega, rfl, name_next HK.out HN.out⟩
            case measure => simp; omega
        · have HN := Lib.hid (nm_3 h0 ho); clear ho hl' hl2
          have hn95 : ((s[k].toNat : Int) != 95) = false := by simpa [bne] using hd
          have hu : s[k].toNat < 97 := by simp at hd; omega
          go_wp2
          all_goals
            go_roundw
            case rel => exact ⟨k + 1, by omega, rfl, name_next HK.out HN.out⟩
            case measure => simp; omega
        · have HN := Lib.hid (nameB_false k hlt (nm_4 hl' ho)); clear ho hl'
          have hn95 : ((s[k].toNat : Int) != 95) = true := by simpa [bne] using hd
          rcases hab with hb | hb
          · go_wp2
            all_goals
              go_ret
              exact ⟨ret_bool (by rw [HN.out]), (Below.refl _ _).alloc (Nat.le_refl _) _⟩
          · rcases hl2 with hl2 | hl2
            · go_wp2
              all_goals
                go_ret
                exact ⟨ret_bool (by rw [HN.out]), (Below.refl _ _).alloc (Nat.le_refl _) _⟩
            · have hl3 : decide ((s[k].toNat : Int) ≤ 122) = false := by simp; omega
              go_wp2
              all_goals
                go_ret
                exact ⟨ret_bool (by rw [HN.out]), (Below.refl _ _).alloc (Nat.le_refl _) _⟩
      · have hd := decode_ge s k hlt ha
        have hnx := fun ty => run_next_any (P := Tryd.prog) w s k ty hlt
        have HN := Lib.hid (nameB_false k hlt (nm_4 (by simp [lettB]; omega) (by simp [othB]; omega)))
        have hl3 : decide (((Utf8.decode s k).1 : Int) ≤ 122) = false := by simp; omega
        have hn95 : (((Utf8.decode s k).1 : Int) != 95) = true := by simp; omega
        by_cases h0 : k = 0
        · subst h0
          go_wp2
          all_goals
            go_ret
            exact ⟨ret_bool (by rw [HN.out]), (Below.refl _ _).alloc (Nat.le_refl _) _⟩
        · have h0' : ((k : Int) == 0) = false := by simp; omega
          go_wp2
          all_goals
            go_ret
            exact ⟨ret_bool (by rw [HN.out]), (Below.refl _ _).alloc (Nat.le_refl _) _⟩
    · have hnx := fun ty => run_next_end (P := Tryd.prog) w s k ty hlt
      go_wp2
      go_ret
      exact ⟨ret_bool (by rw [nameB_true (by omega) (by omega) (fun j hj => HK.out j hj (by omega))]), (Below.refl _ _).alloc (Nat.le_refl _) _⟩
end
section
open Go.RowKit

theorem kletter_any (c : UInt8) (w : World) : Calls Tryd.prog 59 #[.int .u8 (c.toNat : Int)] w fun e w' => e = .returned (.bool (letB c)) ∧ w = w' := by
  obtain ⟨x, hx⟩ : ∃ x, c.toNat = x := ⟨_, rfl⟩
  have e : letB c = (decide (97 ≤ x) && decide (x ≤ 122)) := by unfold letB; rw [hx]
  rw [e, hx]
  clear e hx
  by_cases h : 97 ≤ x
  · by_cases h2 : x ≤ 122
    · have E := Lib.hid (show (decide (97 ≤ x) && decide (x ≤ 122)) = true by simp [h, h2])
      go_enter Tryd.func59, Tryd.ntmps59
      go_wp2
      go_ret
      exact ⟨ret_bool (by first | rfl | (rw [E.out]; try (simp; try omega))), rfl⟩
    · have E := Lib.hid (show (decide (97 ≤ x) && decide (x ≤ 122)) = false by simp [h2])
      go_enter Tryd.func59, Tryd.ntmps59
      go_wp2
      go_ret
      exact ⟨ret_bool (by first | rfl | (rw [E.out]; try (simp; try omega))), rfl⟩
  · have E := Lib.hid (show (decide (97 ≤ x) && decide (x ≤ 122)) = false by simp [h])
    go_enter Tryd.func59, Tryd.ntmps59
    go_wp2
    go_ret
    exact ⟨ret_bool (by first | rfl | (rw [E.out]; try (simp; try omega))), rfl⟩
theorem kdigit_any (c : UInt8) (w : World) : Calls Tryd.prog 61 #[.int .u8 (c.toNat : Int)] w fun e w' => e = .returned (.bool (digB c)) ∧ w = w' := by
  obtain ⟨x, hx⟩ : ∃ x, c.toNat = x := ⟨_, rfl⟩
  have e : digB c = (decide (48 ≤ x) && decide (x ≤ 57)) := by unfold digB; rw [hx]
  rw [e, hx]
  clear e hx
  by_cases h : 48 ≤ x
  · by_cases h2 : x ≤ 57
    · have E := Lib.hid (show (decide (48 ≤ x) && decide (x ≤ 57)) = true by simp [h, h2])
      go_enter Tryd.func61, Tryd.ntmps61
      go_wp2
      go_ret
      exact ⟨ret_bool (by first | rfl | (rw [E.out]; try (simp; try omega))), rfl⟩
    · have E := Lib.hid (show (decide (48 ≤ x) && decide (x ≤ 57)) = false by simp [h2])
      go_enter Tryd.func61, Tryd.ntmps61
      go_wp2
      go_ret
      exact ⟨ret_bool (by first | rfl | (rw [E.out]; try (simp; try omega))), rfl⟩
  · have E := Lib.hid (show (decide (48 ≤ x) && decide (x ≤ 57)) = false by simp [h])
    go_enter Tryd.func61, Tryd.ntmps61
    go_wp2
    go_ret
    exact ⟨ret_bool (by first | rfl | (rw [E.out]; try (simp; try omega))), rfl⟩
set_option maxHeartbeats 400000 in
theorem kword1_any (c : UInt8) (w : World) : Calls Tryd.prog 84 #[.int .u8 (c.toNat : Int)] w fun e w' => e = .returned (.bool (wrdB c)) ∧ w = w' := by
  obtain ⟨a, ha⟩ : ∃ a, letB c = a := ⟨_, rfl⟩
  obtain ⟨b, hb⟩ : ∃ b, digB c = b := ⟨_, rfl⟩
  obtain ⟨d, hd⟩ : ∃ d, (c.toNat == 95) = d := ⟨_, rfl⟩
  have e : wrdB c = (a || b || d) := by unfold wrdB; rw [ha, hb, hd]
  have hd2 : ((c.toNat : Int) == 95) = d := by rw [← hd]; rw [Bool.eq_iff_iff, beq_iff_eq, beq_iff_eq]; omega
  have HA : Box (∀ w, Calls Tryd.prog 59 #[.int .u8 (c.toNat : Int)] w fun e w' => e = .returned (.bool a) ∧ w = w') := ⟨fun w => by rw [← ha]; exact kletter_any c w⟩
  have HB : Box (∀ w, Calls Tryd.prog 61 #[.int .u8 (c.toNat : Int)] w fun e w' => e = .returned (.bool b) ∧ w = w') := ⟨fun w => by rw [← hb]; exact kdigit_any c w⟩
  rw [e]
  clear e hd ha hb
  cases a <;> cases b
  all_goals
    go_enter Tryd.func84, Tryd.ntmps84
    go_wp2_with (first
      | (go_at_call 59; (with_reducible refine (HA.out _).mono ?_); rintro e w' ⟨rfl, rfl⟩)
      | (go_at_call 61; (with_reducible refine (HB.out _).mono ?_); rintro e w' ⟨rfl, rfl⟩))
    go_ret
    exact ⟨rfl, rfl⟩
/-- the source at q -/
abbrev Src (w : World) (q : Nat) (s : ByteArray) (i e : Int) : Prop := Blk w q 88 #[.string s, .int .i64 i, .int .i64 e]
def twN (f : UInt8 → Bool) (s : ByteArray) (k : Nat) : Nat := ((s.data.toList.drop k).takeWhile f).length
theorem data_size (s : ByteArray) : s.data.toList.length = s.size := by show s.data.toList.length = s.data.size; simp
theorem kdrop_at {s : ByteArray} {k : Nat} (h : k < s.size) : s.data.toList.drop k = s[k] :: s.data.toList.drop (k + 1) := by
  rw [List.drop_eq_getElem_cons (by rw [data_size]; exact h)]
  rfl
theorem twN_step {f : UInt8 → Bool} {s : ByteArray} {k : Nat} (h : k < s.size) (hf : f s[k] = true) : twN f s k = twN f s (k + 1) + 1 := by
  unfold twN; rw [kdrop_at h, List.takeWhile_cons, hf]; simp
theorem twN_stop {f : UInt8 → Bool} {s : ByteArray} {k : Nat} (h : k < s.size) (hf : f s[k] = false) : twN f s k = 0 := by
  unfold twN; rw [kdrop_at h, List.takeWhile_cons, hf]; simp
theorem twN_end {f : UInt8 → Bool} {s : ByteArray} {k : Nat} (h : s.size ≤ k) : twN f s k = 0 := by
  unfold twN; rw [List.drop_eq_nil_of_le (by rw [data_size]; exact h)]; simp
theorem twN_le {f : UInt8 → Bool} {s : ByteArray} {k : Nat} (h : k ≤ s.size) : k + twN f s k ≤ s.size := by
  have h1 := List.takeWhile_prefix f (l := s.data.toList.drop k) |>.length_le
  have h2 : (s.data.toList.drop k).length = s.size - k := by rw [List.length_drop, data_size]
  unfold twN; omega
set_option maxHeartbeats 400000 in
theorem krun_word (q k0 : Nat) (s : ByteArray) (i er : Int) (w : World) (h : Src w q s i er) (hk : k0 ≤ s.size) (hs : s.size ≤ 4000) :
    Calls Tryd.prog 83 #[.pointer (some ⟨q, 0, none⟩), .int .i64 k0, .func (.func 84) #[] #[]] w fun e w' => e = .returned (.int .i64 ((k0 + twN wrdB s k0 : Nat) : Int)) ∧ w = w' := by
  obtain ⟨c0, c1, c2⟩ := h.c3
  obtain ⟨en, HE⟩ : ∃ en, Box (k0 + twN wrdB s k0 = en) := ⟨_, ⟨rfl⟩⟩
  rw [HE.out]
  clear h
  go_enter Tryd.func83, Tryd.ntmps83
  go_wp2_with fail
  go_loop [1] (fun v => ∃ k : Nat, v = .int .i64 k ∧ k ≤ s.size ∧ Hid (k + twN wrdB s k = en)) (fun v => s.size - (intOf v).toNat)
  case atStart => exact ⟨k0, rfl, hk, HE.out⟩
  case round =>
    obtain ⟨k, rfl, hk2, HK⟩ := hrel
    by_cases hlt : k < s.size
    · have hlt2 : (k : Int) < (s.size : Int) := by omega
      obtain ⟨b, hb⟩ : ∃ b, wrdB s[k] = b := ⟨_, rfl⟩
      have HC : Box (∀ w, Calls Tryd.prog 84 #[.int .u8 (s[k].toNat : Int)] w fun e w' => e = .returned (.bool b) ∧ w = w') := ⟨fun w => by rw [← hb]; exact kword1_any _ w⟩
      cases b
      · have HN : Hid (k = en) := by have := HK.out; rw [twN_stop hlt hb] at this; exact this
        clear hb
        go_wp2_with (go_at_call 84; (with_reducible refine (HC.out _).mono ?_); rintro e w' ⟨rfl, rfl⟩)
        go_ret
        exact ⟨ret_int (by rw [HN.out]), rfl⟩
      · have HN : Hid (k + 1 + twN wrdB s (k + 1) = en) := by have h5 := HK.out; rw [twN_step hlt hb] at h5; show k + 1 + twN wrdB s (k + 1) = en; omega
        clear hb
        go_wp2_with (go_at_call 84; (with_reducible refine (HC.out _).mono ?_); rintro e w' ⟨rfl, rfl⟩)
        go_round
        case rel => exact ⟨k + 1, by go_num, by omega, HN.out⟩
        case measure => simp [intOf]; omega
    · have hlt2 : ¬ (k : Int) < (s.size : Int) := by omega
      have HN : Hid (k = en) := by have := HK.out; rw [twN_end (by omega)] at this; exact this
      go_wp2_with fail
      go_ret
      exact ⟨ret_int (by rw [HN.out]), rfl⟩
set_option maxHeartbeats 400000 in
theorem krun_digit (q k0 : Nat) (s : ByteArray) (i er : Int) (w : World) (h : Src w q s i er) (hk : k0 ≤ s.size) (hs : s.size ≤ 4000) :
    Calls Tryd.prog 83 #[.pointer (some ⟨q, 0, none⟩), .int .i64 k0, .func (.func 61) #[] #[]] w fun e w' => e = .returned (.int .i64 ((k0 + twN digB s k0 : Nat) : Int)) ∧ w = w' := by
  obtain ⟨c0, c1, c2⟩ := h.c3
  obtain ⟨en, HE⟩ : ∃ en, Box (k0 + twN digB s k0 = en) := ⟨_, ⟨rfl⟩⟩
  rw [HE.out]
  clear h
  go_enter Tryd.func83, Tryd.ntmps83
  go_wp2_with fail
  go_loop [1] (fun v => ∃ k : Nat, v = .int .i64 k ∧ k ≤ s.size ∧ Hid (k + twN digB s k = en)) (fun v => s.size - (intOf v).toNat)
  case atStart => exact ⟨k0, rfl, hk, HE.out⟩
  case round =>
    obtain ⟨k, rfl, hk2, HK⟩ := hrel
    by_cases hlt : k < s.size
    · have hlt2 : (k : Int) < (s.size : Int) := by omega
      obtain ⟨b, hb⟩ : ∃ b, digB s[k] = b := ⟨_, rfl⟩
      have HC : Box (∀ w, Calls Tryd.prog 61 #[.int .u8 (s[k].toNat : Int)] w fun e w' => e = .returned (.bool b) ∧ w = w') := ⟨fun w => by rw [← hb]; exact kdigit_any _ w⟩
      cases b
      · have HN : Hid (k = en) := by have := HK.out; rw [twN_stop hlt hb] at this; exact this
        clear hb
        go_wp2_with (go_at_call 61; (with_reducible refine (HC.out _).mono ?_); rintro e w' ⟨rfl, rfl⟩)
        go_ret
        exact ⟨ret_int (by rw [HN.out]), rfl⟩
      · have HN : Hid (k + 1 + twN digB s (k + 1) = en) := by have h5 := HK.out; rw [twN_step hlt hb] at h5; show k + 1 + twN digB s (k + 1) = en; omega
        clear hb
        go_wp2_with (go_at_call 61; (with_reducible refine (HC.out _).mono ?_); rintro e w' ⟨rfl, rfl⟩)
        go_round
        case rel => exact ⟨k + 1, by go_num, by omega, HN.out⟩
        case measure => simp [intOf]; omega
    · have hlt2 : ¬ (k : Int) < (s.size : Int) := by omega
      have HN : Hid (k = en) := by have := HK.out; rw [twN_end (by omega)] at this; exact this
      go_wp2_with fail
      go_ret
      exact ⟨ret_int (by rw [HN.out]), rfl⟩
end
end Go.Proofs.YthoibeajhdhdhaaDoor
