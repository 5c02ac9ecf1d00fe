/- digits of the reference. -/
import Derived.Test.YtlplligfnbkofaaDoorPn
import Derived.Test.YtlplligfnbkofaaDoorNc
set_option linter.unusedVariables false
set_option linter.unusedSimpArgs false
namespace Go.Proofs.YtlplligfnbkofaaDoor
open Go.RowKit FracM

/-- the digits of s from a on -/
def dR (s : ByteArray) (a : Nat) : List UInt8 := digL (s.data.toList.drop a)
theorem data_at (s : ByteArray) (i : Nat) (h : i < s.size) : s.data.toList[i]? = some s[i] := by
  have h2 : i < s.data.toList.length := by rw [ssz]; exact h
  rw [List.getElem?_eq_getElem h2]; rfl
theorem dR_yes {s : ByteArray} {a j : Nat} (h : j < (dR s a).length) : ∃ hk : a + j < s.size, 48 ≤ s[a + j].toNat ∧ s[a + j].toNat ≤ 57 ∧ (dR s a)[j]? = some s[a + j] := by
  obtain ⟨c, h1, h2, h3⟩ := (digL_at (s.data.toList.drop a) j).1 h
  rw [List.getElem?_drop] at h1
  have hk : a + j < s.size := by
    rcases Nat.lt_or_ge (a + j) s.size with hh | hh
    · exact hh
    · rw [List.getElem?_eq_none (by rw [ssz]; exact hh)] at h1; cases h1
  rw [data_at s _ hk] at h1
  cases h1
  exact ⟨hk, (isD_iff.1 h2).1, (isD_iff.1 h2).2, h3⟩
theorem dR_no {s : ByteArray} {a j : Nat} (h : j = (dR s a).length) (hk : a + j < s.size) : s[a + j].toNat < 48 ∨ 57 < s[a + j].toNat := by
  have := (digL_at (s.data.toList.drop a) j).2 h s[a + j] (by rw [List.getElem?_drop, data_at s _ hk])
  rw [← Bool.not_eq_true, isD_iff] at this
  omega
/-- the first j digits' number -/
def pV (s : ByteArray) (a j : Nat) : Nat := decV ((dR s a).take j)
theorem pV_succ {s : ByteArray} {a j : Nat} {c : UInt8} (h : (dR s a)[j]? = some c) : pV s a (j + 1) = 10 * pV s a j + (c.toNat - 48) := by
  unfold pV; rw [List.take_add_one, h]; simp [decV_snoc]
theorem pV_lt {s : ByteArray} {a j : Nat} (h : j ≤ (dR s a).length) : pV s a j < 10 ^ j :=
  decV_lt j _ (by simp; omega) (fun c hc => digL_all _ c (List.mem_of_mem_take hc))
theorem pV_all (s : ByteArray) (a : Nat) : pV s a (dR s a).length = decV (dR s a) := by unfold pV; rw [List.take_length]
def dgV (s : ByteArray) (a : Nat) : Int × Int := match dgF (s.data.toList.drop a) with | none => (0, -1) | some (n, k) => ((n : Int), ((a + k : Nat) : Int))
theorem dgV_no {s : ByteArray} {a : Nat} (h : (dR s a).length = 0 ∨ 19 < (dR s a).length ∨ 4611686018427387904 < decV (dR s a)) : dgV s a = (0, -1) := by
  unfold dgV dgF; unfold dR at h; rw [if_pos h]
theorem dgV_yes {s : ByteArray} {a j n : Nat} (hj : j = (dR s a).length) (hn : n = decV (dR s a)) (h1 : ¬ j = 0) (h2 : j ≤ 19) (h3 : n ≤ 4611686018427387904) : dgV s a = ((n : Int), ((a + j : Nat) : Int)) := by
  unfold dgV dgF; unfold dR at hj hn; rw [if_neg (by omega)]; simp [hj, hn]
def DgRel (s : ByteArray) (a : Nat) (u v : Value) : Prop :=
  ∃ j n : Nat, u = .int .i64 ((a + j : Nat) : Int) ∧ v = .int .u64 (n : Nat) ∧ j ≤ 20 ∧ j ≤ (dR s a).length ∧ (j ≤ 19 → n = pV s a j) ∧ n < 10000000000000000000
theorem pow19 {j : Nat} (h : j ≤ 18) : 10 ^ j ≤ 1000000000000000000 := Nat.le_trans (Nat.pow_le_pow_right (by omega) h) (by decide)
set_option maxHeartbeats 4000000 in
theorem digits_any (s : ByteArray) (a : Nat) (w : World) (hs : s.size ≤ 1000) (ha : a ≤ 1000) : Calls Tryd.prog 59 #[.string s, .int .i64 (a : Nat)] w fun e w' => e = .returned (.tuple #[.int .i64 (dgV s a).1, .int .i64 (dgV s a).2]) ∧ w' = w := by
  go_enter Tryd.func59, Tryd.ntmps59
  go_wp2
  go_loop [1, 6] (fun u v => DgRel s a u v) (fun u _ => (a + 20 - intOf u).toNat)
  case atStart => exact ⟨0, 0, rfl, rfl, by omega, by omega, fun _ => by simp [pV, decV], by omega⟩
  case round =>
    obtain ⟨j, n, rfl, rfl, hj20, hjr, hn, hnb⟩ := hrel
    by_cases hc : j < (dR s a).length ∧ j < 20
    · obtain ⟨hk, c1, c2, hr⟩ := dR_yes hc.1
      have e1 : ((a + j : Nat) : Int) - (a : Nat) = (j : Nat) := by omega
      have hk2 : ((a + j : Nat) : Int) < s.size := by omega
      have hj2 : (j : Int) < 20 := by omega
      by_cases h19 : j < 19
      · have HV := Box.mk (pV_succ hr)
        have hn2 := hn (by omega)
        have hlt := pV_lt (s := s) (a := a) (j := j) (by omega)
        have hp := pow19 (j := j) (by omega)
        have hnl : n < 1000000000000000000 := by omega
        rw [← hn2] at HV
        have hj3 : (j : Int) < 19 := by omega
        generalize hcc : s[a + j].toNat = c at *
        clear hn hlt hp hn2 hr
        go_wp2
        go_round
        case rel => exact ⟨j + 1, 10 * n + (c - 48), int_eq (by omega), int_eq (by omega), by omega, by omega, fun _ => HV.out.symm, by omega⟩
        case measure => simp [intOf]; omega
      · obtain rfl : j = 19 := by omega
        generalize hcc : s[a + 19].toNat = c at *
        clear hr hn
        go_wp2
        go_round
        case rel => exact ⟨20, n, int_eq (by omega), rfl, by omega, by omega, fun h => by omega, hnb⟩
        case measure => simp [intOf]; omega
    · have hjl0 : ¬ j = 20 → j = (dR s a).length := fun h => by omega
      have hw : (¬ a + j < s.size) ∨ (∃ hk : a + j < s.size, s[a + j].toNat < 48) ∨ (∃ hk : a + j < s.size, 57 < s[a + j].toNat) ∨ (∃ hk : a + j < s.size, 48 ≤ s[a + j].toNat ∧ s[a + j].toNat ≤ 57 ∧ j = 20) := by
        by_cases hk : a + j < s.size
        · by_cases h1 : s[a + j].toNat < 48
          · exact .inr (.inl ⟨hk, h1⟩)
          · by_cases h2 : 57 < s[a + j].toNat
            · exact .inr (.inr (.inl ⟨hk, h2⟩))
            · refine .inr (.inr (.inr ⟨hk, by omega, by omega, ?_⟩))
              rcases Nat.lt_or_ge j (dR s a).length with h3 | h3
              · omega
              · have := dR_no (s := s) (a := a) (j := j) (by omega) hk; omega
        · exact .inl hk
      have e1 : ((a + j : Nat) : Int) - (a : Nat) = (j : Nat) := by omega
      by_cases h20 : j = 20
      · have HE : Box (dgV s a = (0, -1)) := ⟨dgV_no (.inr (.inl (by clear hw; omega)))⟩
        subst h20
        clear hn hc hjr hjl0
        rcases hw with hw | ⟨hk, hw⟩ | ⟨hk, hw⟩ | ⟨hk, hw, hw2, hw3⟩
        all_goals
          try have hkz : ((a + j : Nat) : Int) < s.size := by omega
          try have hkn : ¬ ((a + j : Nat) : Int) < s.size := by omega
          first | (exfalso; omega; done) | skip
          all_goals go_wp2
          all_goals exact bodyPost_ret (v := .tuple #[.int .i64 0, .int .i64 (-1)]) (by simp [results, Tryd.results59, go_sem]) rfl ⟨by rw [HE.out], rfl⟩
      · have hjl := hjl0 h20
        have hnv : n = decV (dR s a) := by rw [hn (by omega), ← pV_all, ← hjl]
        by_cases hj0 : j = 0
        · have HE := Box.mk (dgV_no (s := s) (a := a) (.inl (by clear hw; omega)))
          have hjb : (((a + j : Nat) : Int) == (a : Nat)) = true := by simp; omega
          have hjb2 : ((a : Int) + (j : Int) == (a : Int)) = true := by simp; omega
          have hj3 : ((j : Int) == 0) = true := by simp; omega
          have hjn : (j : Int) < 20 := by clear hw; omega
          clear hn hc hjr hjl hnv hjl0 hj0 h20
          rcases hw with hw | ⟨hk, hw⟩ | ⟨hk, hw⟩ | ⟨hk, hw, hw2, hw3⟩
          all_goals
            try have hkz : ((a + j : Nat) : Int) < s.size := by omega
            try have hkn : ¬ ((a + j : Nat) : Int) < s.size := by omega
            first | (exfalso; omega; done) | skip
            all_goals go_wp2
            all_goals exact bodyPost_ret (v := .tuple #[.int .i64 0, .int .i64 (-1)]) (by simp [results, Tryd.results59, go_sem]) rfl ⟨by rw [HE.out], rfl⟩
        · by_cases hM : n ≤ 4611686018427387904
          · have HE := Box.mk (dgV_yes hjl hnv hj0 (by clear hw; omega) hM)
            have k1 := fin_i64 (n : Int) (by omega) (by omega)
            have hM2 : ¬ (4611686018427387904 : Int) < (n : Int) := by omega
            have hj19 : ¬ (19 : Int) < (j : Int) := by omega
            have hjn : (j : Int) < 20 := by omega
            have hjb : (((a + j : Nat) : Int) == (a : Nat)) = false := by simp; omega
            have hjb2 : ((a : Int) + (j : Int) == (a : Int)) = false := by simp; omega
            have hj3 : ((j : Int) == 0) = false := by simp; omega
            have hj4 : ¬ (j : Int) = 0 := by clear hw; omega
            clear hn hc hjr hjl hnv hjl0
            rcases hw with hw | ⟨hk, hw⟩ | ⟨hk, hw⟩ | ⟨hk, hw, hw2, hw3⟩
            all_goals
              try have hkz : ((a + j : Nat) : Int) < s.size := by omega
              try have hkn : ¬ ((a + j : Nat) : Int) < s.size := by omega
              first | (exfalso; omega; done) | skip
              all_goals go_wp2
              all_goals exact bodyPost_ret (v := .tuple #[.int .i64 (n : Nat), .int .i64 ((a + j : Nat) : Int)]) (by simp [results, Tryd.results59, go_sem]) rfl ⟨by rw [HE.out], rfl⟩
          · have HE := Box.mk (dgV_no (s := s) (a := a) (.inr (.inr (by clear hw; omega))))
            have hM2 : (4611686018427387904 : Int) < (n : Int) := by omega
            have hj19 : ¬ (19 : Int) < (j : Int) := by omega
            have hjn : (j : Int) < 20 := by omega
            have hjb : (((a + j : Nat) : Int) == (a : Nat)) = false := by simp; omega
            have hjb2 : ((a : Int) + (j : Int) == (a : Int)) = false := by simp; omega
            have hj3 : ((j : Int) == 0) = false := by simp; omega
            have hj4 : ¬ (j : Int) = 0 := by clear hw; omega
            clear hn hc hjr hjl hnv hjl0
            rcases hw with hw | ⟨hk, hw⟩ | ⟨hk, hw⟩ | ⟨hk, hw, hw2, hw3⟩
            all_goals
              try have hkz : ((a + j : Nat) : Int) < s.size := by omega
              try have hkn : ¬ ((a + j : Nat) : Int) < s.size := by omega
              first | (exfalso; omega; done) | skip
              all_goals go_wp2
              all_goals exact bodyPost_ret (v := .tuple #[.int .i64 0, .int .i64 (-1)]) (by simp [results, Tryd.results59, go_sem]) rfl ⟨by rw [HE.out], rfl⟩
end Go.Proofs.YtlplligfnbkofaaDoor
