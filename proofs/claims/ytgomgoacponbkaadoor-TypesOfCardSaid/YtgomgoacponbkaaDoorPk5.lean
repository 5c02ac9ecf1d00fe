/- Contracts, packed: Yc Yd Ye Yf Yg Yh. -/
import Derived.Test.YtgomgoacponbkaaDoorPk4
import Derived.Laws.Concat
import Derived.Maps.AppendAt
import Derived.OwnWalk
import Derived.Laws.OwnMore
set_option linter.unusedVariables false
set_option linter.unusedSimpArgs false
namespace Go.Proofs.YtgomgoacponbkaaDoor
section
open Go.RowKit

abbrev reqS : ByteArray := ⟨#[114, 101, 113]⟩
theorem WordsW.below {w w' : World} (h : WordsW w) (hb : Below w.heap.size w w') : WordsW w' := by
  obtain ⟨h1, ⟨h2, h3, h4⟩, h5, h6⟩ := h
  refine ⟨fun k hk => ?_, ⟨(hb.cell h6).trans h2, (hb.cell h6).trans h3, (hb.cell h6).trans h4⟩, Nat.lt_of_lt_of_le h5 hb.size, Nat.lt_of_lt_of_le h6 hb.size⟩
  obtain ⟨s, hs, hn⟩ := h1 k hk
  exact ⟨s, (hb.cell h5).trans hs, hn⟩
set_option maxHeartbeats 400000 in
theorem index_req (w : World) (hw : WordsW w) : Calls Tryd.prog 101 #[.slice (some ⟨1, 0, none⟩) 5 5, .string reqS] w fun e w' => e = .returned (.int .i64 (-1)) ∧ w' = w := by
  have HW := Box.mk hw; clear hw
  go_enter Tryd.func101, Tryd.ntmps101
  go_wp2
  go_loop [8] (fun v => ∃ k : Nat, k ≤ 5 ∧ v = .int .i64 (k : Nat)) (fun v => (5 - intOf v).toNat)
  case atStart => exact ⟨0, by omega, rfl⟩
  case round =>
    obtain ⟨k, hk, rfl⟩ := hrel
    by_cases h5 : k = 5
    · subst h5
      go_wp2
      go_ret
      exact ⟨rfl, rfl⟩
    · obtain ⟨s, hs, hn⟩ := HW.out.groups k (by omega)
      have hn1 : (([114, 101, 113] : List UInt8) == s.toList) = false := by rw [beq_eq_false_iff_ne] at hn ⊢; exact fun h => hn h.symm
      have hk2 : (k : Int) < 5 := by omega
      have hk3 : k < 5 := by omega
      clear h5
      go_wp2
      go_round
      case rel => exact ⟨k + 1, by omega, rfl⟩
      case measure => simp [intOf]; omega
set_option maxHeartbeats 400000 in
theorem contains_req (w : World) (hw : WordsW w) : Calls Tryd.prog 84 #[.slice (some ⟨1, 0, none⟩) 5 5, .string reqS] w (RetB (.bool false) w) := by
  have HW := Box.mk hw; clear hw
  go_enter Tryd.func84, Tryd.ntmps84
  go_wp2_with fail
  refine (index_req _ HW.out).mono ?_
  rintro e w1 ⟨rfl, rfl⟩
  go_wp2_with fail
  go_ret
  exact ⟨rfl, Below.refl _ _⟩
theorem name_s (w : World) : Calls Tryd.prog 83 #[.string reqS] w (RetB (.bool true) w) := by
  have := name_any reqS w (by decide)
  rw [name_req] at this
  exact this
structure Q1 (w W : World) : Prop where
  below : Below w.heap.size w W
  blk : Blk W w.heap.size 38 reqC
theorem Q1.next {w W W' : World} (h : Q1 w W) (hb : Below W.heap.size W W') : Q1 w W' := ⟨bthen h.below hb (Nat.le_refl _), h.blk.below hb⟩
theorem Q1.start (w : World) : Q1 w (w.alloc (.cells reqC 38)) := ⟨bel1 _ _, Blk.new _ _ _⟩
abbrev ReqAt (g : Nat) (w' : World) : Prop := w'.cell? ⟨g, 0, none⟩ = some (.int .i64 1) ∧ w'.cell? ⟨g, 1, none⟩ = some (.int .i64 6) ∧ w'.cell? ⟨g, 2, none⟩ = some (.int .i64 5) ∧ w'.cell? ⟨g, 3, none⟩ = some (.int .i64 0) ∧ w'.cell? ⟨g, 4, none⟩ = some (.int .i64 0) ∧ w'.cell? ⟨g, 5, none⟩ = some (.int .i64 0) ∧ w'.cell? ⟨g, 6, none⟩ = some (.int .i64 0) ∧ w'.cell? ⟨g, 7, none⟩ = some (.string reqS) ∧ w'.cell? ⟨g, 8, none⟩ = some (.slice none 0 0) ∧ w'.cell? ⟨g, 9, none⟩ = some (.slice none 0 0) ∧ w'.cell? ⟨g, 10, none⟩ = some (.slice none 0 0)
theorem req_at {W : World} {g : Nat} (h : Blk W g 38 reqC) : ReqAt g W := by
  unfold Blk at h
  refine ⟨?_, ?_, ?_, ?_, ?_, ?_, ?_, ?_, ?_, ?_, ?_⟩ <;> simp [World.cell?, h]
theorem Q1.c {w W : World} (h : Q1 w W) : ReqAt w.heap.size W := req_at h.blk
set_option maxHeartbeats 1000000 in
set_option maxRecDepth 100000 in
theorem named_req (w : World) (hw : WordsW w) : Calls Tryd.prog 68 #[reqV] w (RetB (.bool true) w) := by
  have HW := Box.mk hw; clear hw
  go_enter Tryd.func68, Tryd.ntmps68
  have HB := Lib.hid (Q1.start w)
  go_upto_region 1 with (fail)
  generalize w.alloc (.cells reqC 38) = W at HB ⊢
  obtain ⟨c0, c1, c2, c3, c4, c5, c6, c7, c8, c9, c10⟩ := HB.out.c
  clear c1 c2 c3 c4 c5 c6 c8 c9 c10
  go_cut [21] (fun x wx => x = .bool false ∧ Q1 w wx)
  case first =>
    go_region_held3 (fun w' => w'.cell? ⟨w.heap.size, 0, none⟩ = some (.int .i64 1) ∧ w'.cell? ⟨w.heap.size, 7, none⟩ = some (.string reqS))
      (first | exact ⟨HB.out.c.1, HB.out.c.2.2.2.2.2.2.2.1⟩ | exact ⟨(HB.out.next (below_drewN _ _)).c.1, (HB.out.next (below_drewN _ _)).c.2.2.2.2.2.2.2.1⟩ | go_keep)
      (first
        | (go_at_call 83; refine (name_s _).mono ?_; rintro e w5 ⟨rfl, hb5⟩; have HB2 : Hid (Q1 w w5) := (by first | exact HB.out.next hb5 | exact (HB.out.next (below_drewN _ _)).next hb5); clear HB; have HB := Lib.hid HB2.out; clear HB2; clear hb5)
        | (go_at_call 84; refine (contains_req _ (by first | exact HW.out.below HB.out.below | exact HW.out.below (HB.out.next (below_drewN _ _)).below)).mono ?_; rintro e w5 ⟨rfl, hb5⟩; have HB2 : Hid (Q1 w w5) := (by first | exact HB.out.next hb5 | exact (HB.out.next (below_drewN _ _)).next hb5); clear HB; have HB := Lib.hid HB2.out; clear HB2; clear hb5))
    all_goals
      go_wp2_with fail
      go_meet
      exact ⟨rfl, HB.out⟩
  case rest =>
    clear HB c0 c7
    obtain ⟨rfl, hbx⟩ := hcut
    rename World => wd
    have HB := Lib.hid hbx; clear hbx
    obtain ⟨c0, c1, c2, c3, c4, c5, c6, c7, c8, c9, c10⟩ := HB.out.c
    clear c0 c1 c2 c3 c4 c5 c6 c7
    go_wp2_with fail
    go_loop [25] (fun v => v = .int .i64 0) (fun _ => 0)
    case atStart => rfl
    case round =>
      subst hrel
      go_wp2_with fail
      go_loop [36] (fun v => v = .int .i64 0) (fun _ => 0)
      case atStart => rfl
      case round =>
        subst hrel
        go_wp2_with fail
        go_ret
        exact ⟨rfl, HB.out.below⟩
end
section
open Go.RowKit

set_option maxHeartbeats 1000000 in
theorem check_req (w : World) (hw : WordsW w) : Calls Tryd.prog 50 #[reqV] w (RetB (.int .i64 0) w) := by
  have HW := Box.mk hw; clear hw
  go_enter Tryd.func50, Tryd.ntmps50
  have HB := Lib.hid (Q1.start w)
  go_upto_region 1 with (fail)
  generalize w.alloc (.cells reqC 38) = W at HB ⊢
  obtain ⟨c0, c1, c2, c3, c4, c5, c6, c7, c8, c9, c10⟩ := HB.out.c
  go_wp2_with fail
  refine (shaped_req _).mono ?_
  rintro e w1 ⟨rfl, hb⟩
  clear c0 c1 c2 c3 c4 c5 c6 c7 c8 c9 c10
  have HB2 := Lib.hid (HB.out.next hb); clear HB hb
  have HB := Lib.hid HB2.out; clear HB2
  obtain ⟨c0, c1, c2, c3, c4, c5, c6, c7, c8, c9, c10⟩ := HB.out.c
  go_wp2_with fail
  refine (named_req _ (HW.out.below HB.out.below)).mono ?_
  rintro e w2 ⟨rfl, hb⟩
  clear c0 c1 c2 c3 c4 c5 c6 c7 c8 c9 c10
  have HB2 := Lib.hid (HB.out.next hb); clear HB hb
  have HB := Lib.hid HB2.out; clear HB2
  obtain ⟨c0, c1, c2, c3, c4, c5, c6, c7, c8, c9, c10⟩ := HB.out.c
  go_wp2_with fail
  refine (ranged_req _).mono ?_
  rintro e w3 ⟨rfl, hb⟩
  clear c0 c1 c2 c3 c4 c5 c6 c7 c8 c9 c10
  have HB2 := Lib.hid (HB.out.next hb); clear HB hb
  have HB := Lib.hid HB2.out; clear HB2
  obtain ⟨c0, c1, c2, c3, c4, c5, c6, c7, c8, c9, c10⟩ := HB.out.c
  go_wp2_with fail
  go_loop [28] (fun v => v = .int .i64 0) (fun _ => 0)
  case atStart => rfl
  case round =>
    subst hrel
    go_wp2_with fail
    go_ret
    exact ⟨rfl, HB.out.below⟩
set_option maxHeartbeats 1000000 in
theorem pvalid_req (w : World) (hw : WordsW w) : Calls Tryd.prog 36 #[reqV] w (RetB (.int .i64 0) w) := by
  have HW := Box.mk hw; clear hw
  go_enter Tryd.func36, Tryd.ntmps36
  have HB := Lib.hid (Q1.start w)
  go_upto_region 1 with (fail)
  generalize w.alloc (.cells reqC 38) = W at HB ⊢
  obtain ⟨c0, c1, c2, c3, c4, c5, c6, c7, c8, c9, c10⟩ := HB.out.c
  go_wp2_with fail
  refine (fits_req _).mono ?_
  rintro e w1 ⟨rfl, hb⟩
  clear c0 c1 c2 c3 c4 c5 c6 c7 c8 c9 c10
  have HB2 := Lib.hid (HB.out.next hb); clear HB hb
  have HB := Lib.hid HB2.out; clear HB2
  obtain ⟨c0, c1, c2, c3, c4, c5, c6, c7, c8, c9, c10⟩ := HB.out.c
  go_wp2_with fail
  refine (check_req _ (HW.out.below HB.out.below)).mono ?_
  rintro e w2 ⟨rfl, hb⟩
  clear c0 c1 c2 c3 c4 c5 c6 c7 c8 c9 c10
  have HB2 := Lib.hid (HB.out.next hb); clear HB hb
  have HB := Lib.hid HB2.out; clear HB2
  go_wp2_with fail
  go_ret
  exact ⟨rfl, HB.out.below⟩
theorem ix0 (a b c : Int) (w : World) : (Instr.index 23 (.agg #[.int .i64 a, .int .i64 b, .int .i64 c]) (.int .i64 0)).run Tryd.prog w = .ok (.int .i64 a) w := by kernel_rfl
theorem ix1 (a b c : Int) (w : World) : (Instr.index 23 (.agg #[.int .i64 a, .int .i64 b, .int .i64 c]) (.int .i64 1)).run Tryd.prog w = .ok (.int .i64 b) w := by kernel_rfl
theorem ix2 (a b c : Int) (w : World) : (Instr.index 23 (.agg #[.int .i64 a, .int .i64 b, .int .i64 c]) (.int .i64 2)).run Tryd.prog w = .ok (.int .i64 c) w := by kernel_rfl
set_option maxHeartbeats 1000000 in
set_option maxRecDepth 100000 in
theorem uvalid_any (a b c : Int) (w : World) (h : -3 ≤ a ∧ a ≤ 3 ∧ -3 ≤ b ∧ b ≤ 3 ∧ -3 ≤ c ∧ c ≤ 3) : Calls Tryd.prog 27 #[.agg #[.int .i64 a, .int .i64 b, .int .i64 c]] w (RetB (.bool true) w) := by
  obtain ⟨h1, h2, h3, h4, h5, h6⟩ := h
  have k1 : ¬ a < -3 := by omega
  have k2 : ¬ 3 < a := by omega
  have k3 : ¬ b < -3 := by omega
  have k4 : ¬ 3 < b := by omega
  have k5 : ¬ c < -3 := by omega
  have k6 : ¬ 3 < c := by omega
  clear h1 h2 h3 h4 h5 h6
  have i0 := ix0 a b c; have i1 := ix1 a b c; have i2 := ix2 a b c
  go_enter Tryd.func27, Tryd.ntmps27
  go_wp2_with fail
  go_loop [6] (fun v => v = .int .i64 0 ∨ v = .int .i64 1 ∨ v = .int .i64 2 ∨ v = .int .i64 3) (fun v => (3 - intOf v).toNat)
  case atStart => exact .inl rfl
  case round =>
    rcases hrel with rfl | rfl | rfl | rfl
    · go_wp2_with fail
      go_round
      case rel => exact .inr (.inl rfl)
      case measure => decide
    · go_wp2_with fail
      go_round
      case rel => exact .inr (.inr (.inl rfl))
      case measure => decide
    · go_wp2_with fail
      go_round
      case rel => exact .inr (.inr (.inr rfl))
      case measure => decide
    · go_wp2_with fail
      go_ret
      exact ⟨rfl, bel1 _ _⟩
end
section
open Go.RowKit

set_option maxHeartbeats 1000000 in
set_option maxRecDepth 100000 in
theorem text_one (w : World) (hw : WordsW w) : Calls Tryd.prog 14 #[.agg #[.int .i64 (1), .int .i64 (0), .int .i64 (-1)]] w (RetB (.string (⟨#[105, 116, 101, 109, 47, 116, 105, 99, 107]⟩ : ByteArray)) w) := by
  have HW := Box.mk hw; clear hw
  have a0 : ∀ W : World, (binOp .add 9 (.string (⟨#[47]⟩ : ByteArray)) (.string (⟨#[116, 105, 99, 107]⟩ : ByteArray))).run Tryd.prog W = .ok (.string (⟨#[47, 116, 105, 99, 107]⟩ : ByteArray)) W := fun W => by kernel_rfl
  have a1 : ∀ W : World, (binOp .add 9 (.string (⟨#[]⟩ : ByteArray)) (.string (⟨#[47, 116, 105, 99, 107]⟩ : ByteArray))).run Tryd.prog W = .ok (.string (⟨#[47, 116, 105, 99, 107]⟩ : ByteArray)) W := fun W => by kernel_rfl
  have a2 : ∀ W : World, (binOp .add 9 (.string (⟨#[105, 116, 101, 109]⟩ : ByteArray)) (.string (⟨#[47, 116, 105, 99, 107]⟩ : ByteArray))).run Tryd.prog W = .ok (.string (⟨#[105, 116, 101, 109, 47, 116, 105, 99, 107]⟩ : ByteArray)) W := fun W => by kernel_rfl
  have i0 := ix0 (1) (0) (-1); have i1 := ix1 (1) (0) (-1); have i2 := ix2 (1) (0) (-1)
  go_enter Tryd.func14, Tryd.ntmps14
  go_wp2_with fail
  refine (uvalid_any _ _ _ _ (by omega)).mono ?_
  rintro e w1 ⟨rfl, hb⟩
  have HB : Hid (Below w.heap.size w w1 ∧ Blk w1 w.heap.size 23 #[.int .i64 (1), .int .i64 (0), .int .i64 (-1)]) := ⟨bthen (bel1 _ _) hb (Nat.le_refl _), (Blk.new _ _ _).below hb⟩
  clear hb
  obtain ⟨p0, p1, p2⟩ := HB.out.2.c3
  obtain ⟨q0, q1, q2⟩ := (HW.out.below HB.out.1).units
  go_wp2_with fail
  go_loop [3, 4, 12] (fun x y v => (x = .string (⟨#[]⟩ : ByteArray) ∧ y = .string (⟨#[]⟩ : ByteArray) ∧ v = .int .i64 0) ∨ (x = .string (⟨#[105, 116, 101, 109]⟩ : ByteArray) ∧ y = .string (⟨#[]⟩ : ByteArray) ∧ v = .int .i64 1) ∨ (x = .string (⟨#[105, 116, 101, 109]⟩ : ByteArray) ∧ y = .string (⟨#[]⟩ : ByteArray) ∧ v = .int .i64 2) ∨ (x = .string (⟨#[105, 116, 101, 109]⟩ : ByteArray) ∧ y = .string (⟨#[47, 116, 105, 99, 107]⟩ : ByteArray) ∧ v = .int .i64 3)) (fun _ _ v => (3 - intOf v).toNat)
  case atStart => exact .inl ⟨rfl, rfl, rfl⟩
  case round =>
    rcases hrel with ⟨rfl, rfl, rfl⟩ | ⟨rfl, rfl, rfl⟩ | ⟨rfl, rfl, rfl⟩ | ⟨rfl, rfl, rfl⟩
    · go_wp2_with fail
      go_round
      case rel => exact (.inr (.inl ⟨rfl, rfl, rfl⟩))
      case measure => decide
    · go_wp2_with fail
      go_round
      case rel => exact (.inr (.inr (.inl ⟨rfl, rfl, rfl⟩)))
      case measure => decide
    · go_wp2_with fail
      go_round
      case rel => exact (.inr (.inr (.inr ⟨rfl, rfl, rfl⟩)))
      case measure => decide
    · go_wp2_with fail
      go_ret
      exact ⟨rfl, HB.out.1⟩
set_option maxHeartbeats 1000000 in
set_option maxRecDepth 100000 in
theorem text_none (w : World) (hw : WordsW w) : Calls Tryd.prog 14 #[.agg #[.int .i64 (0), .int .i64 (0), .int .i64 (0)]] w (RetB (.string (⟨#[49]⟩ : ByteArray)) w) := by
  have HW := Box.mk hw; clear hw
  have a0 : ∀ W : World, (binOp .add 9 (.string (⟨#[49]⟩ : ByteArray)) (.string (⟨#[]⟩ : ByteArray))).run Tryd.prog W = .ok (.string (⟨#[49]⟩ : ByteArray)) W := fun W => by kernel_rfl
  have i0 := ix0 (0) (0) (0); have i1 := ix1 (0) (0) (0); have i2 := ix2 (0) (0) (0)
  go_enter Tryd.func14, Tryd.ntmps14
  go_wp2_with fail
  refine (uvalid_any _ _ _ _ (by omega)).mono ?_
  rintro e w1 ⟨rfl, hb⟩
  have HB : Hid (Below w.heap.size w w1 ∧ Blk w1 w.heap.size 23 #[.int .i64 (0), .int .i64 (0), .int .i64 (0)]) := ⟨bthen (bel1 _ _) hb (Nat.le_refl _), (Blk.new _ _ _).below hb⟩
  clear hb
  obtain ⟨p0, p1, p2⟩ := HB.out.2.c3
  obtain ⟨q0, q1, q2⟩ := (HW.out.below HB.out.1).units
  go_wp2_with fail
  go_loop [3, 4, 12] (fun x y v => (x = .string (⟨#[]⟩ : ByteArray) ∧ y = .string (⟨#[]⟩ : ByteArray) ∧ v = .int .i64 0) ∨ (x = .string (⟨#[]⟩ : ByteArray) ∧ y = .string (⟨#[]⟩ : ByteArray) ∧ v = .int .i64 1) ∨ (x = .string (⟨#[]⟩ : ByteArray) ∧ y = .string (⟨#[]⟩ : ByteArray) ∧ v = .int .i64 2) ∨ (x = .string (⟨#[]⟩ : ByteArray) ∧ y = .string (⟨#[]⟩ : ByteArray) ∧ v = .int .i64 3)) (fun _ _ v => (3 - intOf v).toNat)
  case atStart => exact .inl ⟨rfl, rfl, rfl⟩
  case round =>
    rcases hrel with ⟨rfl, rfl, rfl⟩ | ⟨rfl, rfl, rfl⟩ | ⟨rfl, rfl, rfl⟩ | ⟨rfl, rfl, rfl⟩
    · go_wp2_with fail
      go_round
      case rel => exact (.inr (.inl ⟨rfl, rfl, rfl⟩))
      case measure => decide
    · go_wp2_with fail
      go_round
      case rel => exact (.inr (.inr (.inl ⟨rfl, rfl, rfl⟩)))
      case measure => decide
    · go_wp2_with fail
      go_round
      case rel => exact (.inr (.inr (.inr ⟨rfl, rfl, rfl⟩)))
      case measure => decide
    · go_wp2_with fail
      go_ret
      exact ⟨rfl, HB.out.1⟩
end
section
open Go.RowKit

/-- of the old blocks only g may have turned -/
structure Only (g : Nat) (w w' : World) : Prop where
  os : w'.os = w.os
  tape : w'.tape = w.tape
  output : w'.output = w.output
  size : w.heap.size ≤ w'.heap.size
  block : ∀ k, k < w.heap.size → k ≠ g → w'.heap[k]? = w.heap[k]?
theorem Only.of_below {g : Nat} {w w' : World} (h : Below w.heap.size w w') : Only g w w' := ⟨h.os, h.tape, h.output, h.size, fun k hk _ => h.block k hk⟩
theorem Only.trans {g : Nat} {a b c : World} (h : Only g a b) (k : Only g b c) : Only g a c :=
  ⟨k.os.trans h.os, k.tape.trans h.tape, k.output.trans h.output, Nat.le_trans h.size k.size, fun i hi hn => by rw [k.block i (Nat.lt_of_lt_of_le hi h.size) hn, h.block i hi hn]⟩
theorem Only.below {g B : Nat} {w w' : World} (h : Only g w w') (hg : B ≤ g) (hB : B ≤ w.heap.size) : Below B w w' := ⟨h.os, h.tape, h.output, h.size, fun k hk => h.block k (by omega) (by omega)⟩
theorem Only.blk {g k : Nat} {w w' : World} {t : TypeId} {cs : Array Value} (h : Only g w w') (hb : Blk w k t cs) (hn : k ≠ g) : Blk w' k t cs := (h.block k hb.lt hn).trans hb
theorem Only.setCell {g : Nat} {w : World} (o : Nat) (u : Value) : Only g w (w.setCell ⟨g, o, none⟩ u) := by
  refine ⟨rfl, rfl, rfl, by simp [World.setCell], fun k hk hn => ?_⟩
  exact Below.heap_setCell w ⟨g, o, none⟩ u k hn
abbrev zeroU : Value := .agg #[.int .i64 0, .int .i64 0, .int .i64 0]
/-- the answer v, and the typing's block g holds these cells behind the call -/
def RetT (g : Nat) (v : Value) (cs : Array Value) (w : World) (e : Ending) (w' : World) : Prop := e = .returned v ∧ Blk w' g 72 cs ∧ Only g w w'
set_option maxHeartbeats 1000000 in
theorem fail_any (g : Nat) (d : Value) (c : Int) (w : World) (hg : Blk w g 72 #[d, .int .i64 0]) : Calls Tryd.prog 52 #[.pointer (some ⟨g, 0, none⟩), .int .i64 c] w (RetT g zeroU #[d, .int .i64 c] w) := by
  have HG := Box.mk hg
  obtain ⟨c0, c1⟩ := hg.c2
  have cf := hg.frozen
  have gz := hg.lt
  have gn : ¬ g = w.heap.size := by omega
  have gm : ¬ w.heap.size = g := by omega
  clear hg
  go_enter Tryd.func52, Tryd.ntmps52
  go_wp2_with fail
  exact bodyPost_ret (v := zeroU) (by simp [results, Tryd.results52, go_sem]) rfl ⟨rfl, Blk.alloc (by simpa using HG.out.set 1 (.int .i64 c)) _, (Only.setCell 1 _).trans (Only.of_below (bel1 _ _))⟩
/-- the frame of a method of typing: the query's block, the result's block *-/
structure T2 (g : Nat) (w W : World) (cs : Array Value) : Prop where
  only : Only g w W
  T : Blk W g 72 cs
  Q : Blk W w.heap.size 38 reqC
  R : Blk W (w.heap.size + 1) 23 #[.int .i64 0, .int .i64 0, .int .i64 0]
theorem T2.next {g : Nat} {w W W' : World} {cs cs' : Array Value} (h : T2 g w W cs) (hg : g < w.heap.size) (ho : Only g W W') (hT : Blk W' g 72 cs') : T2 g w W' cs' :=
  ⟨h.only.trans ho, hT, ho.blk h.Q (by omega), ho.blk h.R (by omega)⟩
theorem T2.below {g : Nat} {w W W' : World} {cs : Array Value} (h : T2 g w W cs) (hb : Below W.heap.size W W') : T2 g w W' cs :=
  ⟨h.only.trans (Only.of_below hb), h.T.below hb, h.Q.below hb, h.R.below hb⟩
theorem T2.start {g : Nat} {w : World} {cs : Array Value} (h : Blk w g 72 cs) : T2 g w ((w.alloc (.cells reqC 38)).alloc (.cells #[.int .i64 0, .int .i64 0, .int .i64 0] 23)) cs :=
  ⟨Only.of_below (bel2 _ _ _), (h.alloc _).alloc _, (Blk.new _ _ _).alloc _, Blk.newAt _ _ (by simp)⟩
theorem Only.newCell {g : Nat} {w W : World} (h : Only g w W) {p : Addr} (hp : w.heap.size ≤ p.block) (u : Value) : Only g w (W.setCell p u) :=
  ⟨h.os, h.tape, h.output, by have := h.size; simpa [World.setCell] using this, fun k hk hn => (Below.heap_setCell W p u k (by omega)).trans (h.block k hk hn)⟩
theorem only_R {g : Nat} {w W : World} {cs : Array Value} (h : T2 g w W cs) (u0 u1 u2 : Value) : Only g w (((W.setCell ⟨w.heap.size + 1, 0, none⟩ u0).setCell ⟨w.heap.size + 1, 1, none⟩ u1).setCell ⟨w.heap.size + 1, 2, none⟩ u2) :=
  ((h.only.newCell (p := ⟨w.heap.size + 1, 0, none⟩) (by simp) u0).newCell (p := ⟨w.heap.size + 1, 1, none⟩) (by simp) u1).newCell (p := ⟨w.heap.size + 1, 2, none⟩) (by simp) u2
theorem blk_R {g : Nat} {w W : World} {cs : Array Value} (h : T2 g w W cs) (hg : g < w.heap.size) (u0 u1 u2 : Value) : Blk (((W.setCell ⟨w.heap.size + 1, 0, none⟩ u0).setCell ⟨w.heap.size + 1, 1, none⟩ u1).setCell ⟨w.heap.size + 1, 2, none⟩ u2) g 72 cs :=
  ((h.T.far (p := ⟨w.heap.size + 1, 0, none⟩) (by simp only; omega) _).far (p := ⟨w.heap.size + 1, 1, none⟩) (by simp only; omega) _).far (p := ⟨w.heap.size + 1, 2, none⟩) (by simp only; omega) _
set_option maxHeartbeats 1000000 in
set_option maxRecDepth 100000 in
theorem selected_nil (g : Nat) (w : World) (hg : Blk w g 72 #[.slice none 0 0, .int .i64 0]) : Calls Tryd.prog 51 #[.pointer (some ⟨g, 0, none⟩), reqV] w (RetT g zeroU #[.slice none 0 0, .int .i64 8] w) := by
  have gz := hg.lt
  have HB := Lib.hid (T2.start hg)
  clear hg
  go_enter Tryd.func51, Tryd.ntmps51
  go_upto_region 2 with (fail)
  generalize ((w.alloc (.cells reqC 38)).alloc (.cells #[.int .i64 0, .int .i64 0, .int .i64 0] 23)) = W at HB ⊢
  obtain ⟨t0, t1⟩ := HB.out.T.c2
  go_wp2_with fail
  go_loop [5, 19] (fun u v => u = .slice none 0 0 ∧ v = .int .i64 0) (fun _ _ => 0)
  case atStart => exact ⟨rfl, rfl⟩
  case round =>
    obtain ⟨rfl, rfl⟩ := hrel
    go_wp2_with fail
    refine (fail_any g _ _ _ HB.out.T).mono ?_
    rintro e w5 ⟨rfl, hT, ho⟩
    clear t0 t1
    have HB2 := Lib.hid (HB.out.next gz ho hT); clear HB hT ho
    have HB := Lib.hid HB2.out; clear HB2
    obtain ⟨r0, r1, r2⟩ := HB.out.R.c3
    have rf := HB.out.R.frozen
    go_wp2_with fail
    exact bodyPost_ret (v := zeroU) (by simp [results, Tryd.results51, go_sem, r0, r1, r2, rf]) rfl ⟨rfl, blk_R HB.out gz _ _ _, only_R HB.out _ _ _⟩
end
section
open Go.RowKit

abbrev declC : Array Value := #[.string reqS, .slice none 0 0, .int .i64 1, .int .i64 0, .int .i64 0, .int .i64 0, .int .i64 0, .int .i64 0, .int .i64 0, .int .i64 0, .int .i64 0, .int .i64 0]
abbrev oneU : Value := .agg #[.int .i64 1, .int .i64 0, .int .i64 (-1)]
theorem unitInfo : (Tryd.prog.info? 23).map (fun i => (i.zero, i.size, i.bytes)) = some (some (.agg #[.int .i64 0, .int .i64 0, .int .i64 0]), 3, 24) := by kernel_rfl
theorem eq_one (W : World) : (Op.equalIn 10000 23 (.agg #[.int .i64 1, .int .i64 0, .int .i64 0]) (.agg #[.int .i64 1, .int .i64 0, .int .i64 0])).run Tryd.prog W = .ok true W := by kernel_rfl
theorem cells3n (w : World) (t : TypeId) (v0 v1 v2 : Value) : ∀ j u, [v0, v1, v2][j]? = some u → (w.alloc (.cells #[v0, v1, v2] t)).cell? ((⟨w.heap.size, 0, none⟩ : Addr).add j) = some u := by
  intro j u hj
  match j, hj with
  | 0, hj => simp at hj; subst hj; simp [Addr.add]
  | 1, hj => simp at hj; subst hj; simp [Addr.add]
  | 2, hj => simp at hj; subst hj; simp [Addr.add]
  | j + 3, hj => simp at hj
set_option maxHeartbeats 400000 in
theorem match_nil (w : World) : Calls Tryd.prog 70 #[.slice none 0 0, .slice none 0 0] w (RetB (.bool true) w) := by
  go_enter Tryd.func70, Tryd.ntmps70
  go_wp2_with fail
  go_loop [11] (fun v => v = .int .i64 0) (fun _ => 0)
  case atStart => rfl
  case round =>
    subst hrel
    go_wp2_with fail
    go_ret
    exact ⟨rfl, Below.refl _ _⟩
set_option maxHeartbeats 1000000 in
theorem limited_one (g : Nat) (w : World) : Calls Tryd.prog 71 #[.pointer (some ⟨g, 0, none⟩), oneU] w (RetB oneU w) := by
  go_enter Tryd.func71, Tryd.ntmps71
  go_wp2_with fail
  refine (uvalid_any _ _ _ _ (by omega)).mono ?_
  rintro e w1 ⟨rfl, hb⟩
  have HB : Hid (Below w.heap.size w w1 ∧ Blk w1 w.heap.size 23 #[.int .i64 1, .int .i64 0, .int .i64 (-1)] ∧ Blk w1 (w.heap.size + 1) 23 #[.int .i64 0, .int .i64 0, .int .i64 0]) := ⟨bthen (bel2 _ _ _) hb (Nat.le_refl _), ((Blk.new _ _ _).alloc _).below hb, (Blk.newAt _ _ (by simp)).below hb⟩
  clear hb
  obtain ⟨p0, p1, p2⟩ := HB.out.2.1.c3
  obtain ⟨r0, r1, r2⟩ := HB.out.2.2.c3
  have rf := HB.out.2.2.frozen
  go_wp2_with fail
  exact bodyPost_ret (v := oneU) (by simp [results, Tryd.results71, go_sem, r0, r1, r2, rf]) rfl ⟨rfl, bset3 HB.out.1 (by omega) _ _ _⟩
/-- the units that were found: one -/
structure U1 (W : World) (u : Value) (b off c : Nat) : Prop where
  eq : u = .slice (some ⟨b, off, none⟩) 1 c
  le : 1 ≤ c ∧ c ≤ maxLen
  lt : b < W.heap.size
  c0 : W.cell? ⟨b, off, none⟩ = some (.int .i64 1)
  c1 : W.cell? ⟨b, off + 1, none⟩ = some (.int .i64 0)
  c2 : W.cell? ⟨b, off + 2, none⟩ = some (.int .i64 0)
theorem U1.below {W W' : World} {u : Value} {b off c : Nat} (h : U1 W u b off c) (hb : Below W.heap.size W W') : U1 W' u b off c :=
  ⟨h.eq, h.le, Nat.lt_of_lt_of_le h.lt hb.size, (hb.cell h.lt).trans h.c0, (hb.cell h.lt).trans h.c1, (hb.cell h.lt).trans h.c2⟩
theorem U1.of {W : World} {base : Nat} {u : Value} (h : W.ownsRow base 23 3 u 1 [.int .i64 1, .int .i64 0, .int .i64 0]) : ∃ b off c, U1 W u b off c := by
  obtain ⟨_, A, c, rfl, h1, h2, h3⟩ := Seq.of_own (base' := base) h
  obtain ⟨b, off, rfl, hf, hx⟩ := h3 (by omega)
  exact ⟨b, off, c, rfl, ⟨h1, h2⟩, hf.1, by simpa using hx 0 _ rfl, by simpa using hx 1 _ rfl, by simpa using hx 2 _ rfl⟩
theorem T2.newCell {g : Nat} {w W : World} {cs : Array Value} (h : T2 g w W cs) (hg : g < w.heap.size) {G : Nat} (hG : w.heap.size + 1 < G) (o : Nat) (u : Value) : T2 g w (W.setCell ⟨G, o, none⟩ u) cs :=
  ⟨h.only.newCell (p := ⟨G, o, none⟩) (by simp only; omega) u, h.T.far (p := ⟨G, o, none⟩) (by simp only; omega) u, h.Q.far (p := ⟨G, o, none⟩) (by simp only; omega) u, h.R.far (p := ⟨G, o, none⟩) (by simp only; omega) u⟩
def SelRel (g : Nat) (cs : Array Value) (w : World) (u v : Value) (wr : World) : Prop :=
  T2 g w wr cs ∧ ((v = .int .i64 0 ∧ u = .slice none 0 0) ∨ (v = .int .i64 1 ∧ ∃ b off c, U1 wr u b off c))
set_option maxHeartbeats 2000000 in
set_option maxRecDepth 100000 in
theorem selected_one (g B : Nat) (w : World) (hg : Blk w g 72 #[.slice (some ⟨B, 0, none⟩) 1 1, .int .i64 0]) (hB : Blk w B 46 declC) (hn : B ≠ g) : Calls Tryd.prog 51 #[.pointer (some ⟨g, 0, none⟩), reqV] w (RetT g oneU #[.slice (some ⟨B, 0, none⟩) 1 1, .int .i64 0] w) := by
  obtain ⟨i0, hi, hz0, hz1, hz2⟩ := info_parts unitInfo
  have HI := Box.mk (And.intro hi (And.intro hz0 (And.intro hz1 hz2)))
  have gz := hg.lt
  have bz := hB.lt
  have HB := Lib.hid (T2.start hg)
  have HD := Box.mk hB
  clear hg hB hi hz0 hz1 hz2
  go_enter Tryd.func51, Tryd.ntmps51
  go_upto_region 2 with (fail)
  generalize ((w.alloc (.cells reqC 38)).alloc (.cells #[.int .i64 0, .int .i64 0, .int .i64 0] 23)) = W at HB ⊢
  obtain ⟨t0, t1⟩ := HB.out.T.c2
  go_wp2_with fail
  go_loopw [5, 19] (fun u v wr => SelRel g #[.slice (some ⟨B, 0, none⟩) 1 1, .int .i64 0] w u v wr) (fun _ v _ => (1 - intOf v).toNat)
  case atStart => exact ⟨HB.out, .inl ⟨rfl, rfl⟩⟩
  case round =>
    clear HB t0 t1
    obtain ⟨hT, hrel⟩ := hrel
    have HB := Lib.hid hT; clear hT
    rcases hrel with ⟨rfl, rfl⟩ | ⟨rfl, b, off, c, hU⟩
    · have HDr := Box.mk (HB.out.only.blk HD.out hn)
      obtain ⟨d0, d1, d2, d3, d4, d5, d6, d7, d8, d9, d10, d11⟩ : wr.cell? ⟨B, 0, none⟩ = some (.string reqS) ∧ wr.cell? ⟨B, 1, none⟩ = some (.slice none 0 0) ∧ wr.cell? ⟨B, 2, none⟩ = some (.int .i64 1) ∧ wr.cell? ⟨B, 3, none⟩ = some (.int .i64 0) ∧ wr.cell? ⟨B, 4, none⟩ = some (.int .i64 0) ∧ wr.cell? ⟨B, 5, none⟩ = some (.int .i64 0) ∧ wr.cell? ⟨B, 6, none⟩ = some (.int .i64 0) ∧ wr.cell? ⟨B, 7, none⟩ = some (.int .i64 0) ∧ wr.cell? ⟨B, 8, none⟩ = some (.int .i64 0) ∧ wr.cell? ⟨B, 9, none⟩ = some (.int .i64 0) ∧ wr.cell? ⟨B, 10, none⟩ = some (.int .i64 0) ∧ wr.cell? ⟨B, 11, none⟩ = some (.int .i64 0) := by
        have h := HDr.out; unfold Blk at h
        refine ⟨?_, ?_, ?_, ?_, ?_, ?_, ?_, ?_, ?_, ?_, ?_, ?_⟩ <;> simp [World.cell?, h]
      obtain ⟨c0, c1, c2, c3, c4, c5, c6, c7, c8, c9, c10⟩ := req_at HB.out.Q
      clear c0 c1 c2 c3 c4 c5 c6 c9 c10
      have hq := HB.out.Q.lt
      have nq : ¬ w.heap.size = wr.heap.size := by omega
      go_upto_region 5 with (fail)
      have HB2 := Lib.hid (HB.out.below (bel1 wr (.cells declC 46)))
      have HDd : Hid (Blk (wr.alloc (.cells declC 46)) wr.heap.size 46 declC) := Blk.new _ _ _
      clear HB HDr d0 d1 d2 d3 d4 d5 d6 d7 d8 d9 d10 d11 c7 c8 hq nq
      generalize wr.heap.size = G at *
      generalize wr.alloc (.cells declC 46) = W1 at *
      have HB := Lib.hid HB2.out; clear HB2
      obtain ⟨c7, c8⟩ : W1.cell? ⟨w.heap.size, 7, none⟩ = some (.string reqS) ∧ W1.cell? ⟨w.heap.size, 8, none⟩ = some (.slice none 0 0) := ⟨(req_at HB.out.Q).2.2.2.2.2.2.2.1, (req_at HB.out.Q).2.2.2.2.2.2.2.2.1⟩
      obtain ⟨d0, d1⟩ : W1.cell? ⟨G, 0, none⟩ = some (.string reqS) ∧ W1.cell? ⟨G, 1, none⟩ = some (.slice none 0 0) := by
        have h := HDd.out; unfold Blk at h
        constructor <;> simp [World.cell?, h]
      go_wp2_with fail
      refine (match_nil _).mono ?_
      rintro e w2 ⟨rfl, hb⟩
      clear c7 c8 d0 d1
      have HB2 := Lib.hid (HB.out.below hb); clear HB
      have HD2 := Lib.hid (HDd.out.below hb); clear HDd hb
      have HB := Lib.hid HB2.out; clear HB2
      obtain ⟨d2, d3, d4⟩ : w2.cell? ⟨G, 2, none⟩ = some (.int .i64 1) ∧ w2.cell? ⟨G, 3, none⟩ = some (.int .i64 0) ∧ w2.cell? ⟨G, 4, none⟩ = some (.int .i64 0) := by
        have h := HD2.out; unfold Blk at h
        refine ⟨?_, ?_, ?_⟩ <;> simp [World.cell?, h]
      have hz := HB.out.only.size
      go_wp2_with (at_builtin; refine wpList_append_own_at _ rfl _ _ 62 rfl w.heap.size 23 i0 _ 3 24 Tryd.underlying62 HI.out.1 HI.out.2.1 HI.out.2.2.1 HI.out.2.2.2 rfl (by decide) (.slice none 0 0) 0 [] rfl (World.ownsRow_nil _ _ _ _) ⟨w2.heap.size, 0, none⟩ 1 1 [.int .i64 1, .int .i64 0, .int .i64 0] rfl rfl (cells3n _ _ _ _ _) (by intro u hu; simp at hu; rcases hu with rfl | rfl | rfl <;> rfl) (by unfold maxLen; omega) (by omega) (by simp; omega) ?_; intro v' w3 hown hgr _ hat)
      have HB3 : Hid (T2 g w w3 #[.slice (some ⟨B, 0, none⟩) 1 1, .int .i64 0]) := (HB.out.below (bel1 _ _)).below ⟨hgr.os, hgr.tape, hgr.output, hgr.size, fun k hk => hgr.block k hk (by simp [Value.ownBlock])⟩
      have HU := Box.mk (U1.of hown)
      clear hown hgr hat HB HD2 d2 d3 d4
      go_wp2_with fail
      go_roundw
      case rel => exact ⟨HB3.out, .inr ⟨rfl, HU.out⟩⟩
      case measure => decide
    · obtain ⟨rfl, ⟨hc1, hc2⟩, hlt, k0, k1, k2⟩ := hU
      have HU : Hid (U1 wr (.slice (some ⟨b, off, none⟩) 1 c) b off c) := ⟨rfl, ⟨hc1, hc2⟩, hlt, k0, k1, k2⟩
      clear k0 k1 k2 hlt
      go_wp2_with fail
      go_loopw [50] (fun v wx => T2 g w wx #[.slice (some ⟨B, 0, none⟩) 1 1, .int .i64 0] ∧ U1 wx (.slice (some ⟨b, off, none⟩) 1 c) b off c ∧ (v = .int .i64 0 ∨ v = .int .i64 1)) (fun v _ => (1 - intOf v).toNat)
      case atStart => exact ⟨HB.out, HU.out, .inl rfl⟩
      case round =>
        clear HB HU
        obtain ⟨hT, hU, hv⟩ := hrel
        have HB := Lib.hid hT; have HU := Lib.hid hU; clear hT hU
        obtain ⟨-, -, hlt, k0, k1, k2⟩ := HU.out
        rename World => wx
        rcases hv with rfl | rfl
        · go_upto_region 13 with (fail)
          have HB2 := Lib.hid (HB.out.below (bel1 wx (.cells #[.int .i64 1, .int .i64 0, .int .i64 0] 23)))
          have HU2 := Lib.hid (HU.out.below (bel1 wx (.cells #[.int .i64 1, .int .i64 0, .int .i64 0] 23)))
          have HN : Hid (Blk (wx.alloc (.cells #[.int .i64 1, .int .i64 0, .int .i64 0] 23)) wx.heap.size 23 #[.int .i64 1, .int .i64 0, .int .i64 0]) := Blk.new _ _ _
          clear HB HU hlt k0 k1 k2
          generalize wx.heap.size = G at *
          generalize wx.alloc (.cells #[.int .i64 1, .int .i64 0, .int .i64 0] 23) = W1 at *
          obtain ⟨n0, n1, n2⟩ := HN.out.c3
          go_wp2_with fail
          refine (uvalid_any _ _ _ _ (by omega)).mono ?_
          rintro e w5 ⟨rfl, hb⟩
          clear n0 n1 n2
          have HB := Lib.hid (HB2.out.below hb)
          have HU := Lib.hid (HU2.out.below hb)
          clear HB2 HU2 HN hb
          go_wp2_with fail
          go_roundw
          case rel => exact ⟨HB.out, HU.out, .inr rfl⟩
          case measure => decide
        · go_wp2_with fail
          clear hlt k0 k1 k2
          go_loopw [64] (fun v wx => T2 g w wx #[.slice (some ⟨B, 0, none⟩) 1 1, .int .i64 0] ∧ U1 wx (.slice (some ⟨b, off, none⟩) 1 c) b off c ∧ (v = .int .i64 0 ∨ v = .int .i64 1)) (fun v _ => (1 - intOf v).toNat)
          case atStart => exact ⟨HB.out, HU.out, .inl rfl⟩
          case round =>
            clear HB HU
            obtain ⟨hT, hU, hv⟩ := hrel
            have HB := Lib.hid hT; have HU := Lib.hid hU; clear hT hU
            obtain ⟨-, -, hlt, k0, k1, k2⟩ := HU.out
            rename World => wy
            rcases hv with rfl | rfl
            · have q := eq_one
              go_upto_region 19 with (fail)
              have HB2 := Lib.hid (HB.out.below (bel1 wy (.cells #[.int .i64 1, .int .i64 0, .int .i64 0] 23)))
              have HU2 := Lib.hid (HU.out.below (bel1 wy (.cells #[.int .i64 1, .int .i64 0, .int .i64 0] 23)))
              have HN : Hid (Blk (wy.alloc (.cells #[.int .i64 1, .int .i64 0, .int .i64 0] 23)) wy.heap.size 23 #[.int .i64 1, .int .i64 0, .int .i64 0]) := Blk.new _ _ _
              clear HB HU hlt k0 k1 k2
              generalize wy.heap.size = G at *
              generalize wy.alloc (.cells #[.int .i64 1, .int .i64 0, .int .i64 0] 23) = W1 at *
              obtain ⟨n0, n1, n2⟩ := HN.out.c3
              obtain ⟨-, -, hlt, k0, k1, k2⟩ := HU2.out
              go_region
              all_goals
                go_wp2_with fail
                go_roundw
                case rel => exact ⟨HB2.out.below (below_drewN _ 1), HU2.out.below (below_drewN _ 1), .inr rfl⟩
                case measure => decide
            · have c1 := (req_at HB.out.Q).2.1
              clear c1
              go_upto_region 23 with (fail)
              have hG : w.heap.size + 1 < wy.heap.size := HB.out.R.lt
              have HB2 := Lib.hid (HB.out.below (bel1 wy (.cells #[.int .i64 1, .int .i64 0, .int .i64 0] 23)))
              have HN : Hid (Blk (wy.alloc (.cells #[.int .i64 1, .int .i64 0, .int .i64 0] 23)) wy.heap.size 23 #[.int .i64 1, .int .i64 0, .int .i64 0]) := Blk.new _ _ _
              clear HB HU hlt k0 k1 k2
              generalize wy.heap.size = G at *
              generalize wy.alloc (.cells #[.int .i64 1, .int .i64 0, .int .i64 0] 23) = W1 at *
              obtain ⟨n0, n1, n2⟩ := HN.out.c3
              have nf := HN.out.frozen
              have c1 := (req_at HB2.out.Q).2.1
              go_upto_region 25 with (fail)
              have HB := Lib.hid (HB2.out.newCell gz hG 2 (.int .i64 (-1)))
              have HN2 : Hid (Blk (W1.setCell ⟨G, 2, none⟩ (.int .i64 (-1))) G 23 #[.int .i64 1, .int .i64 0, .int .i64 (-1)]) := by rw [Hid]; simpa using HN.out.set 2 (.int .i64 (-1))
              clear HB2 HN n0 n1 n2 nf c1
              generalize W1.setCell ⟨G, 2, none⟩ (.int .i64 (-1)) = W2 at *
              obtain ⟨n0, n1, n2⟩ := HN2.out.c3
              have hGn : G ≠ w.heap.size + 1 := by omega
              go_region_held3 (fun w' => w'.cell? ⟨G, 0, none⟩ = some (.int .i64 1) ∧ w'.cell? ⟨G, 1, none⟩ = some (.int .i64 0) ∧ w'.cell? ⟨G, 2, none⟩ = some (.int .i64 (-1)))
                (first | exact HN2.out.c3 | exact (HN2.out.below (below_drewN _ 1)).c3 | exact (((HN2.out.far (p := ⟨w.heap.size + 1, 0, none⟩) hGn _).far (p := ⟨w.heap.size + 1, 1, none⟩) hGn _).far (p := ⟨w.heap.size + 1, 2, none⟩) hGn _).c3 | go_keep)
                (first
                  | (go_at_call 71; refine (limited_one g _).mono ?_; rintro e w5 ⟨rfl, hb5⟩; have HB3 : Hid (T2 g w w5 #[.slice (some ⟨B, 0, none⟩) 1 1, .int .i64 0]) := (by first | exact HB.out.below hb5 | exact (HB.out.below (below_drewN _ 1)).below hb5 | exact (HB.out.below (below_drewN _ _)).below hb5); have HN3 : Hid (Blk w5 G 23 #[.int .i64 1, .int .i64 0, .int .i64 (-1)]) := (by first | exact HN2.out.below hb5 | exact Blk.below (w := World.drew _) HN2.out hb5 | exact (HN2.out.below (below_drewN _ _)).below hb5); clear HB HN2; have HB := Lib.hid HB3.out; have HN2 := Lib.hid HN3.out; clear HB3 HN3 hb5; obtain ⟨r0, r1, r2⟩ := HB.out.R.c3; have rf := HB.out.R.frozen))
              all_goals
                go_wp2_with fail
                exact bodyPost_ret (v := oneU) (by simp [results, Tryd.results51, go_sem, r0, r1, r2, rf]) rfl ⟨rfl, blk_R HB.out gz _ _ _, only_R HB.out _ _ _⟩
end
section
open Go.RowKit

set_option maxHeartbeats 1000000 in
set_option maxRecDepth 100000 in
theorem unit_req (g : Nat) (w : World) (cs cs' : Array Value) (v0 v1 v2 : Int) (hg : Blk w g 72 cs)
    (hsel : ∀ W, T2 g w W cs → Calls Tryd.prog 51 #[.pointer (some ⟨g, 0, none⟩), reqV] W (RetT g (.agg #[.int .i64 v0, .int .i64 v1, .int .i64 v2]) cs' W)) :
    Calls Tryd.prog 37 #[.pointer (some ⟨g, 0, none⟩), reqV] w (RetT g (.agg #[.int .i64 v0, .int .i64 v1, .int .i64 v2]) cs' w) := by
  have gz := hg.lt
  have HB := Lib.hid (T2.start hg)
  have HS := Box.mk hsel
  clear hg hsel
  go_enter Tryd.func37, Tryd.ntmps37
  go_upto_region 1 with (fail)
  generalize ((w.alloc (.cells reqC 38)).alloc (.cells #[.int .i64 0, .int .i64 0, .int .i64 0] 23)) = W at HB ⊢
  go_upto_region 2 with (fail)
  have HB2 := Lib.hid (HB.out.below (bel1 W (.cells #[.int .i64 0, .int .i64 0, .int .i64 0, .int .i64 0, .int .i64 0, .int .i64 0] 85)))
  generalize W.alloc (.cells #[.int .i64 0, .int .i64 0, .int .i64 0, .int .i64 0, .int .i64 0, .int .i64 0] 85) = W2 at *
  clear HB
  have HB := Lib.hid HB2.out; clear HB2
  obtain ⟨c0, c1, c2, c3, c4, c5, c6, c7, c8, c9, c10⟩ := req_at HB.out.Q
  go_wp2_with fail
  go_loop [11] (fun v => v = .int .i64 0) (fun _ => 0)
  case atStart => rfl
  case round =>
    subst hrel
    go_wp2_with fail
    refine (HS.out _ HB.out).mono ?_
    rintro e w5 ⟨rfl, hT, ho⟩
    clear c0 c1 c2 c3 c4 c5 c6 c7 c8 c9 c10
    have HB2 := Lib.hid (HB.out.next gz ho hT); clear HB hT ho
    have HB := Lib.hid HB2.out; clear HB2
    obtain ⟨r0, r1, r2⟩ := HB.out.R.c3
    have rf := HB.out.R.frozen
    go_wp2_with fail
    exact bodyPost_ret (v := .agg #[.int .i64 v0, .int .i64 v1, .int .i64 v2]) (by simp [results, Tryd.results37, go_sem, r0, r1, r2, rf]) rfl ⟨rfl, blk_R HB.out gz _ _ _, only_R HB.out _ _ _⟩
end
end Go.Proofs.YtgomgoacponbkaaDoor
