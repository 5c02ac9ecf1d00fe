/- TypesAlgebra: the walk. -/
import Derived.Test.YtgomgoacponbkaaDoorYk
import Derived.ChangeKeysEq
set_option linter.unusedVariables false
set_option linter.unusedSimpArgs false
namespace Go.Proofs.YtgomgoacponbkaaDoor
open Go.RowKit

structure M9 (w W : World) (a0 a1 a2 b0 b1 b2 c0 c1 c2 : Int) : Prop where
  below : Below w.heap.size w W
  A : Blk W (w.heap.size) 23 #[.int .i64 a0, .int .i64 a1, .int .i64 a2]
  B : Blk W (w.heap.size + 1) 23 #[.int .i64 b0, .int .i64 b1, .int .i64 b2]
  C : Blk W (w.heap.size + 1 + 1) 23 #[.int .i64 c0, .int .i64 c1, .int .i64 c2]
theorem M9.next {w W W' : World} {a0 a1 a2 b0 b1 b2 c0 c1 c2 : Int} (h : M9 w W a0 a1 a2 b0 b1 b2 c0 c1 c2) (hb : Below W.heap.size W W') : M9 w W' a0 a1 a2 b0 b1 b2 c0 c1 c2 := ⟨bthen h.below hb (Nat.le_refl _), h.A.below hb, h.B.below hb, h.C.below hb⟩
theorem M9.start (w : World) (a0 a1 a2 b0 b1 b2 c0 c1 c2 : Int) : M9 w (((w.alloc (.cells #[.int .i64 a0, .int .i64 a1, .int .i64 a2] 23)).alloc (.cells #[.int .i64 b0, .int .i64 b1, .int .i64 b2] 23)).alloc (.cells #[.int .i64 c0, .int .i64 c1, .int .i64 c2] 23)) a0 a1 a2 b0 b1 b2 c0 c1 c2 :=
  ⟨bel3 _ _ _ _, ((Blk.new _ _ _).alloc _).alloc _, (Blk.newAt _ _ (by simp)).alloc _, Blk.newAt _ _ (by simp)⟩
theorem M9.cells {w w' : World} {a0 a1 a2 b0 b1 b2 c0 c1 c2 : Int} (h : M9 w w' a0 a1 a2 b0 b1 b2 c0 c1 c2) : w'.cell? ⟨w.heap.size, 0, none⟩ = some (.int .i64 a0) ∧ w'.cell? ⟨w.heap.size, 1, none⟩ = some (.int .i64 a1) ∧ w'.cell? ⟨w.heap.size, 2, none⟩ = some (.int .i64 a2) ∧ w'.cell? ⟨w.heap.size + 1, 0, none⟩ = some (.int .i64 b0) ∧ w'.cell? ⟨w.heap.size + 1, 1, none⟩ = some (.int .i64 b1) ∧ w'.cell? ⟨w.heap.size + 1, 2, none⟩ = some (.int .i64 b2) ∧ w'.cell? ⟨w.heap.size + 1 + 1, 0, none⟩ = some (.int .i64 c0) ∧ w'.cell? ⟨w.heap.size + 1 + 1, 1, none⟩ = some (.int .i64 c1) ∧ w'.cell? ⟨w.heap.size + 1 + 1, 2, none⟩ = some (.int .i64 c2) :=
  ⟨h.A.c3.1, h.A.c3.2.1, h.A.c3.2.2, h.B.c3.1, h.B.c3.2.1, h.B.c3.2.2, h.C.c3.1, h.C.c3.2.1, h.C.c3.2.2⟩
theorem M9.drew {w w' : World} {a0 a1 a2 b0 b1 b2 c0 c1 c2 : Int} (h : M9 w w' a0 a1 a2 b0 b1 b2 c0 c1 c2) : M9 w w'.drew a0 a1 a2 b0 b1 b2 c0 c1 c2 := h.next (below_drewN w' 1)
theorem eq_uv (x y z : Int) (W : World) : (Op.equalIn 10000 23 (uv x y z) (uv x y z)).run Tryd.prog W = .ok true W := by
  have h : (Op.equalIn 10000 23 (uv x y z) (uv x y z)).run Tryd.prog W = .ok ((x == x) && (y == y) && (z == z)) W := by
    obtain ⟨i, hi⟩ : ∃ i, Tryd.prog.info? 3 = some i := Option.isSome_iff_exists.1 (by kernel_rfl)
    have hc : Tryd.prog.cellsOf 3 = 1 := by kernel_rfl
    rw [show (10000 : Nat) = 9999 + 1 from rfl, run_equalIn_array W 9999 _ _ Tryd.underlying23 hi, hc, show List.range 3 = [0, 1, 2] from rfl]
    have h1 : ∀ x y : Int, ∀ w, (Op.equalIn 9999 3 (.int .i64 x) (.int .i64 y)).run Tryd.prog w = .ok (x == y) w := fun x y w => run_equalIn_int w 9998 _ _ _ _ _ Tryd.underlying3
    simp [Op.eqItems, go_sem, h1]
  rw [h]; simp
set_option maxHeartbeats 8000000 in
set_option maxRecDepth 100000 in
theorem typesAlgebra_walk (a0 a1 a2 b0 b1 b2 c0 c1 c2 : Int) (w : World) (hw : WordsW w) (la0 : -9223372036854775808 ≤ a0) (ra0 : a0 ≤ 9223372036854775807) (la1 : -9223372036854775808 ≤ a1) (ra1 : a1 ≤ 9223372036854775807) (la2 : -9223372036854775808 ≤ a2) (ra2 : a2 ≤ 9223372036854775807) (lb0 : -9223372036854775808 ≤ b0) (rb0 : b0 ≤ 9223372036854775807) (lb1 : -9223372036854775808 ≤ b1) (rb1 : b1 ≤ 9223372036854775807) (lb2 : -9223372036854775808 ≤ b2) (rb2 : b2 ≤ 9223372036854775807) (lc0 : -9223372036854775808 ≤ c0) (rc0 : c0 ≤ 9223372036854775807) (lc1 : -9223372036854775808 ≤ c1) (rc1 : c1 ≤ 9223372036854775807) (lc2 : -9223372036854775808 ≤ c2) (rc2 : c2 ≤ 9223372036854775807) :
    Calls Tryd.prog 5 #[uv a0 a1 a2, uv b0 b1 b2, uv c0 c1 c2] w fun e w' => e = .returned (.bool true) ∧ Below w.heap.size w w' := by
  have HW := Box.mk hw; clear hw
  obtain ⟨m0, mh0⟩ : ∃ z, W64 (a0 + b0) = z := ⟨_, rfl⟩
  obtain ⟨m1, mh1⟩ : ∃ z, W64 (a1 + b1) = z := ⟨_, rfl⟩
  obtain ⟨m2, mh2⟩ : ∃ z, W64 (a2 + b2) = z := ⟨_, rfl⟩
  obtain ⟨n0, nh0⟩ : ∃ z, W64 (b0 + c0) = z := ⟨_, rfl⟩
  obtain ⟨n1, nh1⟩ : ∃ z, W64 (b1 + c1) = z := ⟨_, rfl⟩
  obtain ⟨n2, nh2⟩ : ∃ z, W64 (b2 + c2) = z := ⟨_, rfl⟩
  obtain ⟨t0, th0⟩ : ∃ z, W64 (m0 + c0) = z := ⟨_, rfl⟩
  obtain ⟨t1, th1⟩ : ∃ z, W64 (m1 + c1) = z := ⟨_, rfl⟩
  obtain ⟨t2, th2⟩ : ∃ z, W64 (m2 + c2) = z := ⟨_, rfl⟩
  obtain ⟨d0, dh0⟩ : ∃ z, W64 (a0 - b0) = z := ⟨_, rfl⟩
  obtain ⟨d1, dh1⟩ : ∃ z, W64 (a1 - b1) = z := ⟨_, rfl⟩
  obtain ⟨d2, dh2⟩ : ∃ z, W64 (a2 - b2) = z := ⟨_, rfl⟩
  have E10 := Box.mk mh0
  have F10 : Box (W64 (b0 + a0) = m0) := ⟨by rw [W64_comm, mh0]⟩
  have E20 := Box.mk th0
  have E30 := Box.mk nh0
  have E40 : Box (W64 (a0 + n0) = t0) := ⟨by rw [← nh0, ← W64_assoc, mh0, th0]⟩
  have E50 : Box (W64 (a0 + 0) = a0) := ⟨by rw [Int.add_zero, W64_in la0 ra0]⟩
  have E60 : Box (W64 (m0 - b0) = a0) := ⟨by rw [← mh0, W64_undo la0 ra0]⟩
  have E70 := Box.mk dh0
  have E80 : Box (W64 (d0 + b0) = a0) := ⟨by rw [← dh0, W64_redo la0 ra0]⟩
  have E90 : Box (W64 (a0 - a0) = 0) := ⟨by rw [Int.sub_self]; rfl⟩
  have E11 := Box.mk mh1
  have F11 : Box (W64 (b1 + a1) = m1) := ⟨by rw [W64_comm, mh1]⟩
  have E21 := Box.mk th1
  have E31 := Box.mk nh1
  have E41 : Box (W64 (a1 + n1) = t1) := ⟨by rw [← nh1, ← W64_assoc, mh1, th1]⟩
  have E51 : Box (W64 (a1 + 0) = a1) := ⟨by rw [Int.add_zero, W64_in la1 ra1]⟩
  have E61 : Box (W64 (m1 - b1) = a1) := ⟨by rw [← mh1, W64_undo la1 ra1]⟩
  have E71 := Box.mk dh1
  have E81 : Box (W64 (d1 + b1) = a1) := ⟨by rw [← dh1, W64_redo la1 ra1]⟩
  have E91 : Box (W64 (a1 - a1) = 0) := ⟨by rw [Int.sub_self]; rfl⟩
  have E12 := Box.mk mh2
  have F12 : Box (W64 (b2 + a2) = m2) := ⟨by rw [W64_comm, mh2]⟩
  have E22 := Box.mk th2
  have E32 := Box.mk nh2
  have E42 : Box (W64 (a2 + n2) = t2) := ⟨by rw [← nh2, ← W64_assoc, mh2, th2]⟩
  have E52 : Box (W64 (a2 + 0) = a2) := ⟨by rw [Int.add_zero, W64_in la2 ra2]⟩
  have E62 : Box (W64 (m2 - b2) = a2) := ⟨by rw [← mh2, W64_undo la2 ra2]⟩
  have E72 := Box.mk dh2
  have E82 : Box (W64 (d2 + b2) = a2) := ⟨by rw [← dh2, W64_redo la2 ra2]⟩
  have E92 : Box (W64 (a2 - a2) = 0) := ⟨by rw [Int.sub_self]; rfl⟩
  clear mh0 mh1 mh2 nh0 nh1 nh2 th0 th1 th2 dh0 dh1 dh2 la0 ra0 la1 ra1 la2 ra2 lb0 rb0 lb1 rb1 lb2 rb2 lc0 rc0 lc1 rc1 lc2 rc2
  have q := eq_uv
  go_enter Tryd.func5, Tryd.ntmps5
  have HB := Lib.hid (M9.start w a0 a1 a2 b0 b1 b2 c0 c1 c2)
  go_upto_region 1 with (fail)
  generalize (((w.alloc (.cells #[.int .i64 a0, .int .i64 a1, .int .i64 a2] 23)).alloc (.cells #[.int .i64 b0, .int .i64 b1, .int .i64 b2] 23)).alloc (.cells #[.int .i64 c0, .int .i64 c1, .int .i64 c2] 23)) = W at HB ⊢
  go_cut [33] (fun x wx => x = .bool false ∧ M9 w wx a0 a1 a2 b0 b1 b2 c0 c1 c2)
  case first =>
    go_region_held3 (fun w' => w'.cell? ⟨w.heap.size, 0, none⟩ = some (.int .i64 a0) ∧ w'.cell? ⟨w.heap.size, 1, none⟩ = some (.int .i64 a1) ∧ w'.cell? ⟨w.heap.size, 2, none⟩ = some (.int .i64 a2) ∧ w'.cell? ⟨w.heap.size + 1, 0, none⟩ = some (.int .i64 b0) ∧ w'.cell? ⟨w.heap.size + 1, 1, none⟩ = some (.int .i64 b1) ∧ w'.cell? ⟨w.heap.size + 1, 2, none⟩ = some (.int .i64 b2) ∧ w'.cell? ⟨w.heap.size + 1 + 1, 0, none⟩ = some (.int .i64 c0) ∧ w'.cell? ⟨w.heap.size + 1 + 1, 1, none⟩ = some (.int .i64 c1) ∧ w'.cell? ⟨w.heap.size + 1 + 1, 2, none⟩ = some (.int .i64 c2))
      (first | with_reducible exact HB.out.cells | with_reducible exact HB.out.drew.cells | with_reducible exact (HB.out.next (below_drewN _ _)).cells | go_keep)
      (first
        | (go_at_call 10; (with_reducible refine (uMul _ E10.out E11.out E12.out).mono ?_); rintro e w5 ⟨rfl, hb5⟩; have HB2 : Hid (M9 w w5 a0 a1 a2 b0 b1 b2 c0 c1 c2) := (by first | exact HB.out.next hb5 | exact HB.out.drew.next hb5 | exact (HB.out.next (below_drewN _ _)).next hb5); clear HB; have HB := Lib.hid HB2.out; clear HB2; clear hb5)
        | (go_at_call 10; (with_reducible refine (uMul _ F10.out F11.out F12.out).mono ?_); rintro e w5 ⟨rfl, hb5⟩; have HB2 : Hid (M9 w w5 a0 a1 a2 b0 b1 b2 c0 c1 c2) := (by first | exact HB.out.next hb5 | exact HB.out.drew.next hb5 | exact (HB.out.next (below_drewN _ _)).next hb5); clear HB; have HB := Lib.hid HB2.out; clear HB2; clear hb5)
        | (go_at_call 10; (with_reducible refine (uMul _ E20.out E21.out E22.out).mono ?_); rintro e w5 ⟨rfl, hb5⟩; have HB2 : Hid (M9 w w5 a0 a1 a2 b0 b1 b2 c0 c1 c2) := (by first | exact HB.out.next hb5 | exact HB.out.drew.next hb5 | exact (HB.out.next (below_drewN _ _)).next hb5); clear HB; have HB := Lib.hid HB2.out; clear HB2; clear hb5)
        | (go_at_call 10; (with_reducible refine (uMul _ E30.out E31.out E32.out).mono ?_); rintro e w5 ⟨rfl, hb5⟩; have HB2 : Hid (M9 w w5 a0 a1 a2 b0 b1 b2 c0 c1 c2) := (by first | exact HB.out.next hb5 | exact HB.out.drew.next hb5 | exact (HB.out.next (below_drewN _ _)).next hb5); clear HB; have HB := Lib.hid HB2.out; clear HB2; clear hb5)
        | (go_at_call 10; (with_reducible refine (uMul _ E40.out E41.out E42.out).mono ?_); rintro e w5 ⟨rfl, hb5⟩; have HB2 : Hid (M9 w w5 a0 a1 a2 b0 b1 b2 c0 c1 c2) := (by first | exact HB.out.next hb5 | exact HB.out.drew.next hb5 | exact (HB.out.next (below_drewN _ _)).next hb5); clear HB; have HB := Lib.hid HB2.out; clear HB2; clear hb5)
        | (go_at_call 10; (with_reducible refine (uMul _ E50.out E51.out E52.out).mono ?_); rintro e w5 ⟨rfl, hb5⟩; have HB2 : Hid (M9 w w5 a0 a1 a2 b0 b1 b2 c0 c1 c2) := (by first | exact HB.out.next hb5 | exact HB.out.drew.next hb5 | exact (HB.out.next (below_drewN _ _)).next hb5); clear HB; have HB := Lib.hid HB2.out; clear HB2; clear hb5))
    all_goals
      go_wp2_with fail
      go_meet
      exact ⟨rfl, HB.out⟩
  case rest =>
    clear HB
    obtain ⟨rfl, hbx⟩ := hcut
    rename World => wd
    have HB := Lib.hid hbx; clear hbx
    go_upto_region 3 with (fail)
    go_region_held3 (fun w' => w'.cell? ⟨w.heap.size, 0, none⟩ = some (.int .i64 a0) ∧ w'.cell? ⟨w.heap.size, 1, none⟩ = some (.int .i64 a1) ∧ w'.cell? ⟨w.heap.size, 2, none⟩ = some (.int .i64 a2) ∧ w'.cell? ⟨w.heap.size + 1, 0, none⟩ = some (.int .i64 b0) ∧ w'.cell? ⟨w.heap.size + 1, 1, none⟩ = some (.int .i64 b1) ∧ w'.cell? ⟨w.heap.size + 1, 2, none⟩ = some (.int .i64 b2) ∧ w'.cell? ⟨w.heap.size + 1 + 1, 0, none⟩ = some (.int .i64 c0) ∧ w'.cell? ⟨w.heap.size + 1 + 1, 1, none⟩ = some (.int .i64 c1) ∧ w'.cell? ⟨w.heap.size + 1 + 1, 2, none⟩ = some (.int .i64 c2))
      (first | with_reducible exact HB.out.cells | with_reducible exact HB.out.drew.cells | with_reducible exact (HB.out.next (below_drewN _ _)).cells | go_keep)
      (first
        | (go_at_call 10; (with_reducible refine (uMul _ E10.out E11.out E12.out).mono ?_); rintro e w5 ⟨rfl, hb5⟩; have HB2 : Hid (M9 w w5 a0 a1 a2 b0 b1 b2 c0 c1 c2) := (by first | exact HB.out.next hb5 | exact HB.out.drew.next hb5 | exact (HB.out.next (below_drewN _ _)).next hb5); clear HB; have HB := Lib.hid HB2.out; clear HB2; clear hb5)
        | (go_at_call 12; (with_reducible refine (uDiv _ E60.out E61.out E62.out).mono ?_); rintro e w5 ⟨rfl, hb5⟩; have HB2 : Hid (M9 w w5 a0 a1 a2 b0 b1 b2 c0 c1 c2) := (by first | exact HB.out.next hb5 | exact HB.out.drew.next hb5 | exact (HB.out.next (below_drewN _ _)).next hb5); clear HB; have HB := Lib.hid HB2.out; clear HB2; clear hb5)
        | (go_at_call 12; (with_reducible refine (uDiv _ E70.out E71.out E72.out).mono ?_); rintro e w5 ⟨rfl, hb5⟩; have HB2 : Hid (M9 w w5 a0 a1 a2 b0 b1 b2 c0 c1 c2) := (by first | exact HB.out.next hb5 | exact HB.out.drew.next hb5 | exact (HB.out.next (below_drewN _ _)).next hb5); clear HB; have HB := Lib.hid HB2.out; clear HB2; clear hb5)
        | (go_at_call 10; (with_reducible refine (uMul _ E80.out E81.out E82.out).mono ?_); rintro e w5 ⟨rfl, hb5⟩; have HB2 : Hid (M9 w w5 a0 a1 a2 b0 b1 b2 c0 c1 c2) := (by first | exact HB.out.next hb5 | exact HB.out.drew.next hb5 | exact (HB.out.next (below_drewN _ _)).next hb5); clear HB; have HB := Lib.hid HB2.out; clear HB2; clear hb5)
        | (go_at_call 12; (with_reducible refine (uDiv _ E90.out E91.out E92.out).mono ?_); rintro e w5 ⟨rfl, hb5⟩; have HB2 : Hid (M9 w w5 a0 a1 a2 b0 b1 b2 c0 c1 c2) := (by first | exact HB.out.next hb5 | exact HB.out.drew.next hb5 | exact (HB.out.next (below_drewN _ _)).next hb5); clear HB; have HB := Lib.hid HB2.out; clear HB2; clear hb5)
        | (go_at_call 16; refine (lives_true _ (by first | exact HW.out.below HB.out.below | exact HW.out.below HB.out.drew.below)).mono ?_; rintro e w5 ⟨rfl, hb5⟩; have HB2 : Hid (M9 w w5 a0 a1 a2 b0 b1 b2 c0 c1 c2) := (by first | exact HB.out.next hb5 | exact HB.out.drew.next hb5); clear HB; have HB := Lib.hid HB2.out; clear HB2; clear hb5))
    all_goals
      go_wp2_with fail
      go_ret
      exact ⟨rfl, HB.out.below⟩
end Go.Proofs.YtgomgoacponbkaaDoor
