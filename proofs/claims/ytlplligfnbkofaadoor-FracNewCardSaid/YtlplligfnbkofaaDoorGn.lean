/- FracNew: the walk. -/
import Derived.Test.YtlplligfnbkofaaDoorFl
set_option linter.unusedVariables false
set_option linter.unusedSimpArgs false
namespace Go.Proofs.YtlplligfnbkofaaDoor
open Go.RowKit FracM

set_option maxHeartbeats 1000000 in
theorem fracNew_walk (num den : Int) (w : World) (hl : LibW w) (l1 : -9223372036854775808 ≤ num) (u1 : num ≤ 9223372036854775807) (l2 : -9223372036854775808 ≤ den) (u2 : den ≤ 9223372036854775807) :
    Calls Tryd.prog 3 #[.int .i64 num, .int .i64 den] w fun e w' => e = .returned (.bool true) ∧ Below w.heap.size w w' := by
  have HL := Box.mk hl; clear hl
  obtain ⟨bd1, bd2, bd3, bd4, bd5⟩ := newF_bd (num := num) (den := den)
  have hself := newF_self (n := num) (d := den)
  have hok := fun n d => newF_ok (p := num) (q := den) (n := n) (d := d)
  generalize hr : newF num den = r at *
  obtain ⟨a, b, c⟩ := r
  simp only at bd1 bd2 bd3 bd4 bd5
  have HR := Box.mk hr; clear hr
  by_cases hc : (c == 0) = true
  case neg =>
    have hc0 : (c == 0) = false := by simpa using hc
    have hc1 : (c != 0) = true := by simpa using hc
    have HV : Box (validB num den = false) := ⟨by rw [Bool.eq_false_iff]; intro h; have := hself.1 h; simp at this; simp [this.2.2] at hc⟩
    clear hself hok hc
    go_enter Tryd.func3, Tryd.ntmps3
    go_wp2_with fail
    refine (new_any num den _ l1 u1 l2 u2).mono ?_
    rintro e w1 ⟨rfl, hb1⟩
    rw [HR.out]
    have HB1 := Lib.hid hb1; clear hb1
    go_wp2_with fail
    refine (rnew_any num den _ l1 u1 l2 u2).mono ?_
    rintro e w2 ⟨rfl, hb2⟩
    rw [HR.out]
    have HB2 : Hid (Below w.heap.size w w2 ∧ Blk w2 w1.heap.size 23 #[.int .i64 a, .int .i64 b]) := ⟨bthen (HB1.out.alloc HB1.out.size _) hb2 (Nat.le_refl _), (Blk.new _ _ _).below hb2⟩
    have hs2 := sz1 hb2
    clear hb2
    obtain ⟨c0, c1⟩ := HB2.out.2.c2
    have x1 : ¬ w1.heap.size = w2.heap.size := by omega
    have x2 : ¬ w1.heap.size = w2.heap.size + 1 := by omega
    go_wp2_with fail
    refine (valid_any num den _ l1 u1 l2 u2).mono ?_
    rintro e w3 ⟨rfl, hb3⟩
    rw [HV.out]
    have HB3 : Hid (Below w.heap.size w w3 ∧ Blk w3 w1.heap.size 23 #[.int .i64 a, .int .i64 b] ∧ Blk w3 (w2.heap.size + 1) 23 #[.int .i64 num, .int .i64 den]) := ⟨bthen ((HB2.out.1.alloc HB2.out.1.size _).alloc (by have := HB2.out.1.size; simp; omega) _) hb3 (Nat.le_refl _), ((HB2.out.2.alloc _).alloc _).below hb3, (Blk.newAt _ _ (by simp)).below hb3⟩
    clear hb3 c0 c1
    obtain ⟨c0, c1⟩ := HB3.out.2.1.c2
    obtain ⟨d0, d1⟩ := HB3.out.2.2.c2
    go_wp2_with fail
    refine (lives_true _ (HL.out.below HB3.out.1)).mono ?_
    rintro e w5 ⟨rfl, hb5⟩
    have HB5 : Hid (Below w.heap.size w w5) := bthen HB3.out.1 hb5 (Nat.le_refl _)
    clear hb5
    go_wp2_with fail
    go_ret
    exact ⟨rfl, HB5.out⟩
  have hc1 : (c != 0) = false := by simpa using hc
  obtain rfl : c = 0 := by simpa using hc
  have HW : Box (validB a b = true) := ⟨hok a b rfl⟩
  clear hok hc hc1
  by_cases e1 : (a == num) = true
  · by_cases e2 : (b == den) = true
    · have HV : Box (validB num den = true) := ⟨hself.2 (by simp at e1 e2; rw [e1, e2])⟩
      clear hself
      go_enter Tryd.func3, Tryd.ntmps3
      go_wp2_with fail
      refine (new_any num den _ l1 u1 l2 u2).mono ?_
      rintro e w1 ⟨rfl, hb1⟩
      rw [HR.out]
      have HB1 := Lib.hid hb1; clear hb1
      go_wp2_with fail
      refine (rnew_any num den _ l1 u1 l2 u2).mono ?_
      rintro e w2 ⟨rfl, hb2⟩
      rw [HR.out]
      have HB2 : Hid (Below w.heap.size w w2 ∧ Blk w2 w1.heap.size 23 #[.int .i64 a, .int .i64 b]) := ⟨bthen (HB1.out.alloc HB1.out.size _) hb2 (Nat.le_refl _), (Blk.new _ _ _).below hb2⟩
      have hs2 := sz1 hb2
      clear hb2
      obtain ⟨c0, c1⟩ := HB2.out.2.c2
      have x1 : ¬ w1.heap.size = w2.heap.size := by omega
      have x2 : ¬ w1.heap.size = w2.heap.size + 1 := by omega
      go_wp2_with fail
      refine (valid_any num den _ l1 u1 l2 u2).mono ?_
      rintro e w3 ⟨rfl, hb3⟩
      rw [HV.out]
      have HB3 : Hid (Below w.heap.size w w3 ∧ Blk w3 w1.heap.size 23 #[.int .i64 a, .int .i64 b] ∧ Blk w3 (w2.heap.size + 1) 23 #[.int .i64 num, .int .i64 den]) := ⟨bthen ((HB2.out.1.alloc HB2.out.1.size _).alloc (by have := HB2.out.1.size; simp; omega) _) hb3 (Nat.le_refl _), ((HB2.out.2.alloc _).alloc _).below hb3, (Blk.newAt _ _ (by simp)).below hb3⟩
      clear hb3 c0 c1
      obtain ⟨c0, c1⟩ := HB3.out.2.1.c2
      obtain ⟨d0, d1⟩ := HB3.out.2.2.c2
      go_wp2_with fail
      refine (valid_any a b _ (by omega) (by omega) (by omega) (by omega)).mono ?_
      rintro e w4 ⟨rfl, hb4⟩
      rw [HW.out]
      have HB4 : Hid (Below w.heap.size w w4) := bthen HB3.out.1 hb4 (Nat.le_refl _)
      clear hb4
      go_wp2_with fail
      refine (lives_true _ (HL.out.below HB4.out)).mono ?_
      rintro e w5 ⟨rfl, hb5⟩
      have HB5 : Hid (Below w.heap.size w w5) := bthen HB4.out hb5 (Nat.le_refl _)
      clear hb5
      go_wp2_with fail
      go_ret
      exact ⟨rfl, HB5.out⟩
    · replace e2 : (b == den) = false := by simpa using e2
      have HV : Box (validB num den = false) := ⟨by rw [Bool.eq_false_iff]; intro h; have := hself.1 h; simp at this; simp [this.2] at e2⟩
      clear hself
      go_enter Tryd.func3, Tryd.ntmps3
      go_wp2_with fail
      refine (new_any num den _ l1 u1 l2 u2).mono ?_
      rintro e w1 ⟨rfl, hb1⟩
      rw [HR.out]
      have HB1 := Lib.hid hb1; clear hb1
      go_wp2_with fail
      refine (rnew_any num den _ l1 u1 l2 u2).mono ?_
      rintro e w2 ⟨rfl, hb2⟩
      rw [HR.out]
      have HB2 : Hid (Below w.heap.size w w2 ∧ Blk w2 w1.heap.size 23 #[.int .i64 a, .int .i64 b]) := ⟨bthen (HB1.out.alloc HB1.out.size _) hb2 (Nat.le_refl _), (Blk.new _ _ _).below hb2⟩
      have hs2 := sz1 hb2
      clear hb2
      obtain ⟨c0, c1⟩ := HB2.out.2.c2
      have x1 : ¬ w1.heap.size = w2.heap.size := by omega
      have x2 : ¬ w1.heap.size = w2.heap.size + 1 := by omega
      go_wp2_with fail
      refine (valid_any num den _ l1 u1 l2 u2).mono ?_
      rintro e w3 ⟨rfl, hb3⟩
      rw [HV.out]
      have HB3 : Hid (Below w.heap.size w w3 ∧ Blk w3 w1.heap.size 23 #[.int .i64 a, .int .i64 b] ∧ Blk w3 (w2.heap.size + 1) 23 #[.int .i64 num, .int .i64 den]) := ⟨bthen ((HB2.out.1.alloc HB2.out.1.size _).alloc (by have := HB2.out.1.size; simp; omega) _) hb3 (Nat.le_refl _), ((HB2.out.2.alloc _).alloc _).below hb3, (Blk.newAt _ _ (by simp)).below hb3⟩
      clear hb3 c0 c1
      obtain ⟨c0, c1⟩ := HB3.out.2.1.c2
      obtain ⟨d0, d1⟩ := HB3.out.2.2.c2
      go_wp2_with fail
      refine (valid_any a b _ (by omega) (by omega) (by omega) (by omega)).mono ?_
      rintro e w4 ⟨rfl, hb4⟩
      rw [HW.out]
      have HB4 : Hid (Below w.heap.size w w4) := bthen HB3.out.1 hb4 (Nat.le_refl _)
      clear hb4
      go_wp2_with fail
      refine (lives_true _ (HL.out.below HB4.out)).mono ?_
      rintro e w5 ⟨rfl, hb5⟩
      have HB5 : Hid (Below w.heap.size w w5) := bthen HB4.out hb5 (Nat.le_refl _)
      clear hb5
      go_wp2_with fail
      go_ret
      exact ⟨rfl, HB5.out⟩
  · replace e1 : (a == num) = false := by simpa using e1
    have HV : Box (validB num den = false) := ⟨by rw [Bool.eq_false_iff]; intro h; have := hself.1 h; simp at this; simp [this.1] at e1⟩
    clear hself
    go_enter Tryd.func3, Tryd.ntmps3
    go_wp2_with fail
    refine (new_any num den _ l1 u1 l2 u2).mono ?_
    rintro e w1 ⟨rfl, hb1⟩
    rw [HR.out]
    have HB1 := Lib.hid hb1; clear hb1
    go_wp2_with fail
    refine (rnew_any num den _ l1 u1 l2 u2).mono ?_
    rintro e w2 ⟨rfl, hb2⟩
    rw [HR.out]
    have HB2 : Hid (Below w.heap.size w w2 ∧ Blk w2 w1.heap.size 23 #[.int .i64 a, .int .i64 b]) := ⟨bthen (HB1.out.alloc HB1.out.size _) hb2 (Nat.le_refl _), (Blk.new _ _ _).below hb2⟩
    have hs2 := sz1 hb2
    clear hb2
    obtain ⟨c0, c1⟩ := HB2.out.2.c2
    have x1 : ¬ w1.heap.size = w2.heap.size := by omega
    have x2 : ¬ w1.heap.size = w2.heap.size + 1 := by omega
    go_wp2_with fail
    refine (valid_any num den _ l1 u1 l2 u2).mono ?_
    rintro e w3 ⟨rfl, hb3⟩
    rw [HV.out]
    have HB3 : Hid (Below w.heap.size w w3 ∧ Blk w3 w1.heap.size 23 #[.int .i64 a, .int .i64 b] ∧ Blk w3 (w2.heap.size + 1) 23 #[.int .i64 num, .int .i64 den]) := ⟨bthen ((HB2.out.1.alloc HB2.out.1.size _).alloc (by have := HB2.out.1.size; simp; omega) _) hb3 (Nat.le_refl _), ((HB2.out.2.alloc _).alloc _).below hb3, (Blk.newAt _ _ (by simp)).below hb3⟩
    clear hb3 c0 c1
    obtain ⟨c0, c1⟩ := HB3.out.2.1.c2
    obtain ⟨d0, d1⟩ := HB3.out.2.2.c2
    go_wp2_with fail
    refine (valid_any a b _ (by omega) (by omega) (by omega) (by omega)).mono ?_
    rintro e w4 ⟨rfl, hb4⟩
    rw [HW.out]
    have HB4 : Hid (Below w.heap.size w w4) := bthen HB3.out.1 hb4 (Nat.le_refl _)
    clear hb4
    go_wp2_with fail
    refine (lives_true _ (HL.out.below HB4.out)).mono ?_
    rintro e w5 ⟨rfl, hb5⟩
    have HB5 : Hid (Below w.heap.size w w5) := bthen HB4.out hb5 (Nat.le_refl _)
    clear hb5
    go_wp2_with fail
    go_ret
    exact ⟨rfl, HB5.out⟩
end Go.Proofs.YtlplligfnbkofaaDoor
