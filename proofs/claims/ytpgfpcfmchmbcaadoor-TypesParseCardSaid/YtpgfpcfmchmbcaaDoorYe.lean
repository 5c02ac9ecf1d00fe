/- Text of two units. -/
import Derived.Test.YtpgfpcfmchmbcaaDoorYd
import Derived.Laws.Concat
set_option linter.unusedVariables false
set_option linter.unusedSimpArgs false
namespace Go.Proofs.YtpgfpcfmchmbcaaDoor
open Go.RowKit

set_option maxHeartbeats 1000000 in
set_option maxRecDepth 100000 in
theorem text_one (w : World) (hw : WordsW w) : Calls Tryd.prog 7 #[.agg #[.int .i64 (1), .int .i64 (0), .int .i64 (-1)]] w (RetB (.string (⟨#[105, 116, 101, 109, 47, 116, 105, 99, 107]⟩ : ByteArray)) w) := by
  have HW := Box.mk hw; clear hw
  have a0 : ∀ W : World, (binOp .add 9 (.string (⟨#[47]⟩ : ByteArray)) (.string (⟨#[116, 105, 99, 107]⟩ : ByteArray))).run Tryd.prog W = .ok (.string (⟨#[47, 116, 105, 99, 107]⟩ : ByteArray)) W := fun W => by kernel_rfl
  have a1 : ∀ W : World, (binOp .add 9 (.string (⟨#[]⟩ : ByteArray)) (.string (⟨#[47, 116, 105, 99, 107]⟩ : ByteArray))).run Tryd.prog W = .ok (.string (⟨#[47, 116, 105, 99, 107]⟩ : ByteArray)) W := fun W => by kernel_rfl
  have a2 : ∀ W : World, (binOp .add 9 (.string (⟨#[105, 116, 101, 109]⟩ : ByteArray)) (.string (⟨#[47, 116, 105, 99, 107]⟩ : ByteArray))).run Tryd.prog W = .ok (.string (⟨#[105, 116, 101, 109, 47, 116, 105, 99, 107]⟩ : ByteArray)) W := fun W => by kernel_rfl
  have i0 := ix0 (1) (0) (-1); have i1 := ix1 (1) (0) (-1); have i2 := ix2 (1) (0) (-1)
  go_enter Tryd.func7, Tryd.ntmps7
  go_wp2_with fail
  refine (uvalid_any _ _ _ _ (by omega)).mono ?_
  rintro e w1 ⟨rfl, hb⟩
  have HB : Hid (Below w.heap.size w w1 ∧ Blk w1 w.heap.size 23 #[.int .i64 (1), .int .i64 (0), .int .i64 (-1)]) := ⟨bthen (bel1 _ _) hb (Nat.le_refl _), (Blk.new _ _ _).below hb⟩
  clear hb
  obtain ⟨p0, p1, p2⟩ := HB.out.2.c3
  obtain ⟨q0, q1, q2⟩ := (HW.out.below HB.out.1).units
  go_wp2_with fail
  go_loop [3, 4, 12] (fun x y v => (x = .string (⟨#[]⟩ : ByteArray) ∧ y = .string (⟨#[]⟩ : ByteArray) ∧ v = .int .i64 0) ∨ (x = .string (⟨#[105, 116, 101, 109]⟩ : ByteArray) ∧ y = .string (⟨#[]⟩ : ByteArray) ∧ v = .int .i64 1) ∨ (x = .string (⟨#[105, 116, 101, 109]⟩ : ByteArray) ∧ y = .string (⟨#[]⟩ : ByteArray) ∧ v = .int .i64 2) ∨ (x = .string (⟨#[105, 116, 101, 109]⟩ : ByteArray) ∧ y = .string (⟨#[47, 116, 105, 99, 107]⟩ : ByteArray) ∧ v = .int .i64 3)) (fun _ _ v => (3 - intOf v).toNat)
  case atStart => exact .inl ⟨rfl, rfl, rfl⟩
  case round =>
    rcases hrel with ⟨rfl, rfl, rfl⟩ | ⟨rfl, rfl, rfl⟩ | ⟨rfl, rfl, rfl⟩ | ⟨rfl, rfl, rfl⟩
    · go_wp2_with fail
      go_round
      case rel => exact (.inr (.inl ⟨rfl, rfl, rfl⟩))
      case measure => decide
    · go_wp2_with fail
      go_round
      case rel => exact (.inr (.inr (.inl ⟨rfl, rfl, rfl⟩)))
      case measure => decide
    · go_wp2_with fail
      go_round
      case rel => exact (.inr (.inr (.inr ⟨rfl, rfl, rfl⟩)))
      case measure => decide
    · go_wp2_with fail
      go_ret
      exact ⟨rfl, HB.out.1⟩
set_option maxHeartbeats 1000000 in
set_option maxRecDepth 100000 in
theorem text_none (w : World) (hw : WordsW w) : Calls Tryd.prog 7 #[.agg #[.int .i64 (0), .int .i64 (0), .int .i64 (0)]] w (RetB (.string (⟨#[49]⟩ : ByteArray)) w) := by
  have HW := Box.mk hw; clear hw
  have a0 : ∀ W : World, (binOp .add 9 (.string (⟨#[49]⟩ : ByteArray)) (.string (⟨#[]⟩ : ByteArray))).run Tryd.prog W = .ok (.string (⟨#[49]⟩ : ByteArray)) W := fun W => by kernel_rfl
  have i0 := ix0 (0) (0) (0); have i1 := ix1 (0) (0) (0); have i2 := ix2 (0) (0) (0)
  go_enter Tryd.func7, Tryd.ntmps7
  go_wp2_with fail
  refine (uvalid_any _ _ _ _ (by omega)).mono ?_
  rintro e w1 ⟨rfl, hb⟩
  have HB : Hid (Below w.heap.size w w1 ∧ Blk w1 w.heap.size 23 #[.int .i64 (0), .int .i64 (0), .int .i64 (0)]) := ⟨bthen (bel1 _ _) hb (Nat.le_refl _), (Blk.new _ _ _).below hb⟩
  clear hb
  obtain ⟨p0, p1, p2⟩ := HB.out.2.c3
  obtain ⟨q0, q1, q2⟩ := (HW.out.below HB.out.1).units
  go_wp2_with fail
  go_loop [3, 4, 12] (fun x y v => (x = .string (⟨#[]⟩ : ByteArray) ∧ y = .string (⟨#[]⟩ : ByteArray) ∧ v = .int .i64 0) ∨ (x = .string (⟨#[]⟩ : ByteArray) ∧ y = .string (⟨#[]⟩ : ByteArray) ∧ v = .int .i64 1) ∨ (x = .string (⟨#[]⟩ : ByteArray) ∧ y = .string (⟨#[]⟩ : ByteArray) ∧ v = .int .i64 2) ∨ (x = .string (⟨#[]⟩ : ByteArray) ∧ y = .string (⟨#[]⟩ : ByteArray) ∧ v = .int .i64 3)) (fun _ _ v => (3 - intOf v).toNat)
  case atStart => exact .inl ⟨rfl, rfl, rfl⟩
  case round =>
    rcases hrel with ⟨rfl, rfl, rfl⟩ | ⟨rfl, rfl, rfl⟩ | ⟨rfl, rfl, rfl⟩ | ⟨rfl, rfl, rfl⟩
    · go_wp2_with fail
      go_round
      case rel => exact (.inr (.inl ⟨rfl, rfl, rfl⟩))
      case measure => decide
    · go_wp2_with fail
      go_round
      case rel => exact (.inr (.inr (.inl ⟨rfl, rfl, rfl⟩)))
      case measure => decide
    · go_wp2_with fail
      go_round
      case rel => exact (.inr (.inr (.inr ⟨rfl, rfl, rfl⟩)))
      case measure => decide
    · go_wp2_with fail
      go_ret
      exact ⟨rfl, HB.out.1⟩
end Go.Proofs.YtpgfpcfmchmbcaaDoor
