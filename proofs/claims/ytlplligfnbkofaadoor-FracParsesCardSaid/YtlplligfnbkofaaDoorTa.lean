/- Decimal of the reference. -/
import Derived.Test.YtlplligfnbkofaaDoorTm
import Derived.Laws.Concat
set_option linter.unusedVariables false
set_option linter.unusedSimpArgs false
namespace Go.Proofs.YtlplligfnbkofaaDoor
open Go.RowKit FracM

def bs (l : List UInt8) : ByteArray := ⟨l.toArray⟩
theorem bs_size (l : List UInt8) : (bs l).size = l.length := bsz l
theorem bs_app (a b : List UInt8) : bs a ++ bs b = bs (a ++ b) := by
  unfold bs; apply ByteArray.ext; simp
abbrev tenD : ByteArray := ⟨#[48, 49, 50, 51, 52, 53, 54, 55, 56, 57]⟩
theorem ten_at {d : Nat} (h : d < 10) : tenD.extract d (d + 1) = bs [UInt8.ofNat (48 + d)] := by
  have : d = 0 ∨ d = 1 ∨ d = 2 ∨ d = 3 ∨ d = 4 ∨ d = 5 ∨ d = 6 ∨ d = 7 ∨ d = 8 ∨ d = 9 := by omega
  rcases this with rfl | rfl | rfl | rfl | rfl | rfl | rfl | rfl | rfl | rfl <;> decide
def DecRel (n : Int) (u v : Value) : Prop :=
  ∃ (l : List UInt8) (k : Int), u = .string (bs l) ∧ v = .int .i64 k ∧ -9223372036854775808 ≤ k ∧ k ≤ 9223372036854775807 ∧ preD n.natAbs = preD k.natAbs ++ l
theorem dec_len (u : Nat) (h : u ≤ 9223372036854775808) : (preD u).length ≤ 21 := by
  by_cases h0 : u = 0
  · subst h0; simp [preD]
  · rw [preD_pos h0]
    have h1 := Lib.itoa_length_le (-(u : Int)) (by omega) (by omega)
    rw [Lib.itoa_neg u (by omega)] at h1
    simp at h1; omega
set_option maxHeartbeats 400000 in
theorem decimal_any (n : Int) (w : World) (h1 : -9223372036854775808 ≤ n) (h2 : n ≤ 9223372036854775807) : Calls Tryd.prog 58 #[.int .i64 n] w fun e w' => e = .returned (.string (itoaB n)) ∧ w' = w := by
  by_cases h0 : n = 0
  · subst h0
    go_enter Tryd.func58, Tryd.ntmps58
    go_wp2
    go_ret
    exact ⟨ret_str (by decide +kernel), rfl⟩
  · have h0b : (n == 0) = false := by simp [h0]
    have HD : Box (∀ l, preD n.natAbs = preD (0 : Int).natAbs ++ l → (if n < 0 then bs (45 :: l) else bs l) = itoaB n) := ⟨fun l hl => by
      have e : preD n.natAbs = Lib.decDigits n.natAbs := preD_pos (by omega)
      rw [e] at hl
      simp [preD] at hl
      unfold itoaB Lib.itoa
      split
      · rw [← hl]; rfl
      · rw [show n.toNat = n.natAbs by omega, hl]; rfl⟩
    have HLen := Box.mk (dec_len n.natAbs (by omega))
    go_enter Tryd.func58, Tryd.ntmps58
    go_wp2
    go_loop [4, 5] (fun u v => DecRel n u v) (fun _ v => (intOf v).natAbs)
    case atStart => exact ⟨[], n, rfl, rfl, h1, h2, by simp⟩
    case round =>
      obtain ⟨l, k, rfl, rfl, hk1, hk2, hp⟩ := hrel
      have HP := Box.mk hp; clear hp
      have hl : l.length ≤ 21 := by have := HLen.out; rw [HP.out] at this; simp at this; omega
      by_cases hk0 : k = 0
      · subst hk0
        have HE := Box.mk (HD.out l HP.out)
        by_cases hn : n < 0
        · rw [if_pos hn] at HE
          have a1 := fun W => run_string_add_sum (P := Tryd.prog) (w := W) ⟨#[45]⟩ (bs l) (by rw [bs_size]; show 1 + _ ≤ _; omega)
          go_wp2
          go_ret
          exact ⟨ret_str (by rw [← HE.out]; exact bs_app [45] l), rfl⟩
        · rw [if_neg hn] at HE
          go_wp2
          go_ret
          exact ⟨ret_str HE.out, rfl⟩
      · have HD2 : Box (preD n.natAbs = preD (k.tdiv 10).natAbs ++ (UInt8.ofNat (48 + k.natAbs % 10) :: l)) := ⟨by
          rw [HP.out, preD_step (by omega), show (k.tdiv 10).natAbs = k.natAbs / 10 by rw [Int.natAbs_tdiv]; rfl]; simp⟩
        have hm : (k.tdiv 10).natAbs < k.natAbs := by rw [Int.natAbs_tdiv]; show k.natAbs / 10 < _; omega
        have hq1 : -9223372036854775808 ≤ k.tdiv 10 := by omega
        have hq2 : k.tdiv 10 ≤ 9223372036854775807 := by omega
        obtain ⟨q, hq⟩ : ∃ q, k.tdiv 10 = q := ⟨_, rfl⟩
        rw [hq] at HD2 hm hq1 hq2
        have hd : k.natAbs % 10 < 10 := by omega
        have hT := ten_at hd
        have hsg : k.tmod 10 = if k < 0 then -((k.natAbs % 10 : Nat) : Int) else ((k.natAbs % 10 : Nat) : Int) := by
          split
          · rename_i h
            rw [show k = -((k.natAbs : Nat) : Int) by omega, Int.neg_tmod]; simp [Int.tmod_eq_emod_of_nonneg]
          · rename_i h
            rw [Int.tmod_eq_emod_of_nonneg (by omega)]; omega
        generalize k.natAbs % 10 = d at *
        have hd2 : (d : Int) < 10 := by omega
        have hkb : (k == 0) = false := by simp [hk0]
        have hTT := Box.mk hT; have HM := Box.mk hm; have HQ := Box.mk hq
        clear hT hm
        have a1 := fun W => run_string_add_sum (P := Tryd.prog) (w := W) (tenD.extract d (d + 1)) (bs l) (by rw [hTT.out, bs_size, bs_size]; show 1 + _ ≤ _; omega)
        by_cases hs : k < 0
        · rw [if_pos hs] at hsg
          by_cases hd0 : d = 0
          · subst hd0
            have a0 := fun W => run_string_add_sum (P := Tryd.prog) (w := W) (tenD.extract 0 1) (bs l) (by rw [hTT.out, bs_size, bs_size]; show 1 + _ ≤ _; omega)
            go_wp2
            go_round
            case rel => exact ⟨UInt8.ofNat (48 + 0) :: l, q, by rw [show tenD.extract 0 1 = _ from hTT.out, bs_app]; rfl, rfl, hq1, hq2, HD2.out⟩
            case measure => simpa [intOf] using HM.out
          · have hd3 : 0 < d := by omega
            go_wp2
            go_round
            case rel => exact ⟨UInt8.ofNat (48 + d) :: l, q, by rw [hTT.out, bs_app]; rfl, rfl, hq1, hq2, HD2.out⟩
            case measure => simpa [intOf] using HM.out
        · rw [if_neg hs] at hsg
          go_wp2
          go_round
          case rel => exact ⟨UInt8.ofNat (48 + d) :: l, q, by rw [hTT.out, bs_app]; rfl, rfl, hq1, hq2, HD2.out⟩
          case measure => simpa [intOf] using HM.out
end Go.Proofs.YtlplligfnbkofaaDoor
