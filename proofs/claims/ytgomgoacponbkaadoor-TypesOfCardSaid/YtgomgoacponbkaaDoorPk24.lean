/- Contracts, packed: Yl Ym. -/
import Derived.Test.YtgomgoacponbkaaDoorPk23
import Derived.ChangeKeysEq
import Derived.ProofKit
import Derived.LaidMore
import Derived.LaidLaws
import Derived.OpenShut
import Derived.Stop.Joined
import Derived.HandedShaped
set_option linter.unusedVariables false
set_option linter.unusedSimpArgs false
namespace Go.Proofs.YtgomgoacponbkaaDoor
section
open Go.RowKit

structure M9 (w W : World) (a0 a1 a2 b0 b1 b2 c0 c1 c2 : Int) : Prop where
  below : Below w.heap.size w W
  A : Blk W (w.heap.size) 23 #[.int .i64 a0, .int .i64 a1, .int .i64 a2]
  B : Blk W (w.heap.size + 1) 23 #[.int .i64 b0, .int .i64 b1, .int .i64 b2]
  C : Blk W (w.heap.size + 1 + 1) 23 #[.int .i64 c0, .int .i64 c1, .int .i64 c2]
theorem M9.next {w W W' : World} {a0 a1 a2 b0 b1 b2 c0 c1 c2 : Int} (h : M9 w W a0 a1 a2 b0 b1 b2 c0 c1 c2) (hb : Below W.heap.size W W') : M9 w W' a0 a1 a2 b0 b1 b2 c0 c1 c2 := ⟨bthen h.below hb (Nat.le_refl _), h.A.below hb, h.B.below hb, h.C.below hb⟩
theorem M9.start (w : World) (a0 a1 a2 b0 b1 b2 c0 c1 c2 : Int) : M9 w (((w.alloc (.cells #[.int .i64 a0, .int .i64 a1, .int .i64 a2] 23)).alloc (.cells #[.int .i64 b0, .int .i64 b1, .int .i64 b2] 23)).alloc (.cells #[.int .i64 c0, .int .i64 c1, .int .i64 c2] 23)) a0 a1 a2 b0 b1 b2 c0 c1 c2 :=
  ⟨bel3 _ _ _ _, ((Blk.new _ _ _).alloc _).alloc _, (Blk.newAt _ _ (by simp)).alloc _, Blk.newAt _ _ (by simp)⟩
theorem M9.cells {w w' : World} {a0 a1 a2 b0 b1 b2 c0 c1 c2 : Int} (h : M9 w w' a0 a1 a2 b0 b1 b2 c0 c1 c2) : w'.cell? ⟨w.heap.size, 0, none⟩ = some (.int .i64 a0) ∧ w'.cell? ⟨w.heap.size, 1, none⟩ = some (.int .i64 a1) ∧ w'.cell? ⟨w.heap.size, 2, none⟩ = some (.int .i64 a2) ∧ w'.cell? ⟨w.heap.size + 1, 0, none⟩ = some (.int .i64 b0) ∧ w'.cell? ⟨w.heap.size + 1, 1, none⟩ = some (.int .i64 b1) ∧ w'.cell? ⟨w.heap.size + 1, 2, none⟩ = some (.int .i64 b2) ∧ w'.cell? ⟨w.heap.size + 1 + 1, 0, none⟩ = some (.int .i64 c0) ∧ w'.cell? ⟨w.heap.size + 1 + 1, 1, none⟩ = some (.int .i64 c1) ∧ w'.cell? ⟨w.heap.size + 1 + 1, 2, none⟩ = some (.int .i64 c2) :=
  ⟨h.A.c3.1, h.A.c3.2.1, h.A.c3.2.2, h.B.c3.1, h.B.c3.2.1, h.B.c3.2.2, h.C.c3.1, h.C.c3.2.1, h.C.c3.2.2⟩
theorem M9.drew {w w' : World} {a0 a1 a2 b0 b1 b2 c0 c1 c2 : Int} (h : M9 w w' a0 a1 a2 b0 b1 b2 c0 c1 c2) : M9 w w'.drew a0 a1 a2 b0 b1 b2 c0 c1 c2 := h.next (below_drewN w' 1)
theorem eq_uv (x y z : Int) (W : World) : (Op.equalIn 10000 23 (uv x y z) (uv x y z)).run Tryd.prog W = .ok true W := by
  have h : (Op.equalIn 10000 23 (uv x y z) (uv x y z)).run Tryd.prog W = .ok ((x == x) && (y == y) && (z == z)) W := by
    obtain ⟨i, hi⟩ : ∃ i, Tryd.prog.info? 3 = some i := Option.isSome_iff_exists.1 (by kernel_rfl)
    have hc : Tryd.prog.cellsOf 3 = 1 := by kernel_rfl
    rw [show (10000 : Nat) = 9999 + 1 from rfl, run_equalIn_array W 9999 _ _ Tryd.underlying23 hi, hc, show List.range 3 = [0, 1, 2] from rfl]
    have h1 : ∀ x y : Int, ∀ w, (Op.equalIn 9999 3 (.int .i64 x) (.int .i64 y)).run Tryd.prog w = .ok (x == y) w := fun x y w => run_equalIn_int w 9998 _ _ _ _ _ Tryd.underlying3
    simp [Op.eqItems, go_sem, h1]
  rw [h]; simp
set_option maxHeartbeats 8000000 in
set_option maxRecDepth 100000 in
theorem typesAlgebra_walk (a0 a1 a2 b0 b1 b2 c0 c1 c2 : Int) (w : World) (hw : WordsW w) (la0 : -9223372036854775808 ≤ a0) (ra0 : a0 ≤ 9223372036854775807) (la1 : -9223372036854775808 ≤ a1) (ra1 : a1 ≤ 9223372036854775807) (la2 : -9223372036854775808 ≤ a2) (ra2 : a2 ≤ 9223372036854775807) (lb0 : -9223372036854775808 ≤ b0) (rb0 : b0 ≤ 9223372036854775807) (lb1 : -9223372036854775808 ≤ b1) (rb1 : b1 ≤ 9223372036854775807) (lb2 : -9223372036854775808 ≤ b2) (rb2 : b2 ≤ 9223372036854775807) (lc0 : -9223372036854775808 ≤ c0) (rc0 : c0 ≤ 9223372036854775807) (lc1 : -9223372036854775808 ≤ c1) (rc1 : c1 ≤ 9223372036854775807) (lc2 : -9223372036854775808 ≤ c2) (rc2 : c2 ≤ 9223372036854775807) :
    Calls Tryd.prog 5 #[uv a0 a1 a2, uv b0 b1 b2, uv c0 c1 c2] w fun e w' => e = .returned (.bool true) ∧ Below w.heap.size w w' := by
  have HW := Box.mk hw; clear hw
  obtain ⟨m0, mh0⟩ : ∃ z, W64 (a0 + b0) = z := ⟨_, rfl⟩
  obtain ⟨m1, mh1⟩ : ∃ z, W64 (a1 + b1) = z := ⟨_, rfl⟩
  obtain ⟨m2, mh2⟩ : ∃ z, W64 (a2 + b2) = z := ⟨_, rfl⟩
  obtain ⟨n0, nh0⟩ : ∃ z, W64 (b0 + c0) = z := ⟨_, rfl⟩
  obtain ⟨n1, nh1⟩ : ∃ z, W64 (b1 + c1) = z := ⟨_, rfl⟩
  obtain ⟨n2, nh2⟩ : ∃ z, W64 (b2 + c2) = z := ⟨_, rfl⟩
  obtain ⟨t0, th0⟩ : ∃ z, W64 (m0 + c0) = z := ⟨_, rfl⟩
  obtain ⟨t1, th1⟩ : ∃ z, W64 (m1 + c1) = z := ⟨_, rfl⟩
  obtain ⟨t2, th2⟩ : ∃ z, W64 (m2 + c2) = z := ⟨_, rfl⟩
  obtain ⟨d0, dh0⟩ : ∃ z, W64 (a0 - b0) = z := ⟨_, rfl⟩
  obtain ⟨d1, dh1⟩ : ∃ z, W64 (a1 - b1) = z := ⟨_, rfl⟩
  obtain ⟨d2, dh2⟩ : ∃ z, W64 (a2 - b2) = z := ⟨_, rfl⟩
  have E10 := Box.mk mh0
  have F10 : Box (W64 (b0 + a0) = m0) := ⟨by rw [W64_comm, mh0]⟩
  have E20 := Box.mk th0
  have E30 := Box.mk nh0
  have E40 : Box (W64 (a0 + n0) = t0) := ⟨by rw [← nh0, ← W64_assoc, mh0, th0]⟩
  have E50 : Box (W64 (a0 + 0) = a0) := ⟨by rw [Int.add_zero, W64_in la0 ra0]⟩
  have E60 : Box (W64 (m0 - b0) = a0) := ⟨by rw [← mh0, W64_undo la0 ra0]⟩
  have E70 := Box.mk dh0
  have E80 : Box (W64 (d0 + b0) = a0) := ⟨by rw [← dh0, W64_redo la0 ra0]⟩
  have E90 : Box (W64 (a0 - a0) = 0) := ⟨by rw [Int.sub_self]; rfl⟩
  have E11 := Box.mk mh1
  have F11 : Box (W64 (b1 + a1) = m1) := ⟨by rw [W64_comm, mh1]⟩
  have E21 := Box.mk th1
  have E31 := Box.mk nh1
  have E41 : Box (W64 (a1 + n1) = t1) := ⟨by rw [← nh1, ← W64_assoc, mh1, th1]⟩
  have E51 : Box (W64 (a1 + 0) = a1) := ⟨by rw [Int.add_zero, W64_in la1 ra1]⟩
  have E61 : Box (W64 (m1 - b1) = a1) := ⟨by rw [← mh1, W64_undo la1 ra1]⟩
  have E71 := Box.mk dh1
  have E81 : Box (W64 (d1 + b1) = a1) := ⟨by rw [← dh1, W64_redo la1 ra1]⟩
  have E91 : Box (W64 (a1 - a1) = 0) := ⟨by rw [Int.sub_self]; rfl⟩
  have E12 := Box.mk mh2
  have F12 : Box (W64 (b2 + a2) = m2) := ⟨by rw [W64_comm, mh2]⟩
  have E22 := Box.mk th2
  have E32 := Box.mk nh2
  have E42 : Box (W64 (a2 + n2) = t2) := ⟨by rw [← nh2, ← W64_assoc, mh2, th2]⟩
  have E52 : Box (W64 (a2 + 0) = a2) := ⟨by rw [Int.add_zero, W64_in la2 ra2]⟩
  have E62 : Box (W64 (m2 - b2) = a2) := ⟨by rw [← mh2, W64_undo la2 ra2]⟩
  have E72 := Box.mk dh2
  have E82 : Box (W64 (d2 + b2) = a2) := ⟨by rw [← dh2, W64_redo la2 ra2]⟩
  have E92 : Box (W64 (a2 - a2) = 0) := ⟨by rw [Int.sub_self]; rfl⟩
  clear mh0 mh1 mh2 nh0 nh1 nh2 th0 th1 th2 dh0 dh1 dh2 la0 ra0 la1 ra1 la2 ra2 lb0 rb0 lb1 rb1 lb2 rb2 lc0 rc0 lc1 rc1 lc2 rc2
  have q := eq_uv
  go_enter Tryd.func5, Tryd.ntmps5
  have HB := Lib.hid (M9.start w a0 a1 a2 b0 b1 b2 c0 c1 c2)
  go_upto_region 1 with (fail)
  generalize (((w.alloc (.cells #[.int .i64 a0, .int .i64 a1, .int .i64 a2] 23)).alloc (.cells #[.int .i64 b0, .int .i64 b1, .int .i64 b2] 23)).alloc (.cells #[.int .i64 c0, .int .i64 c1, .int .i64 c2] 23)) = W at HB ⊢
  go_cut [33] (fun x wx => x = .bool false ∧ M9 w wx a0 a1 a2 b0 b1 b2 c0 c1 c2)
  case first =>
    go_region_held3 (fun w' => w'.cell? ⟨w.heap.size, 0, none⟩ = some (.int .i64 a0) ∧ w'.cell? ⟨w.heap.size, 1, none⟩ = some (.int .i64 a1) ∧ w'.cell? ⟨w.heap.size, 2, none⟩ = some (.int .i64 a2) ∧ w'.cell? ⟨w.heap.size + 1, 0, none⟩ = some (.int .i64 b0) ∧ w'.cell? ⟨w.heap.size + 1, 1, none⟩ = some (.int .i64 b1) ∧ w'.cell? ⟨w.heap.size + 1, 2, none⟩ = some (.int .i64 b2) ∧ w'.cell? ⟨w.heap.size + 1 + 1, 0, none⟩ = some (.int .i64 c0) ∧ w'.cell? ⟨w.heap.size + 1 + 1, 1, none⟩ = some (.int .i64 c1) ∧ w'.cell? ⟨w.heap.size + 1 + 1, 2, none⟩ = some (.int .i64 c2))
      (first | with_reducible exact HB.out.cells | with_reducible exact HB.out.drew.cells | with_reducible exact (HB.out.next (below_drewN _ _)).cells | go_keep)
      (first
        | (go_at_call 10; (with_reducible refine (uMul _ E10.out E11.out E12.out).mono ?_); rintro e w5 ⟨rfl, hb5⟩; have HB2 : Hid (M9 w w5 a0 a1 a2 b0 b1 b2 c0 c1 c2) := (by first | exact HB.out.next hb5 | exact HB.out.drew.next hb5 | exact (HB.out.next (below_drewN _ _)).next hb5); clear HB; have HB := Lib.hid HB2.out; clear HB2; clear hb5)
        | (go_at_call 10; (with_reducible refine (uMul _ F10.out F11.out F12.out).mono ?_); rintro e w5 ⟨rfl, hb5⟩; have HB2 : Hid (M9 w w5 a0 a1 a2 b0 b1 b2 c0 c1 c2) := (by first | exact HB.out.next hb5 | exact HB.out.drew.next hb5 | exact (HB.out.next (below_drewN _ _)).next hb5); clear HB; have HB := Lib.hid HB2.out; clear HB2; clear hb5)
        | (go_at_call 10; (with_reducible refine (uMul _ E20.out E21.out E22.out).mono ?_); rintro e w5 ⟨rfl, hb5⟩; have HB2 : Hid (M9 w w5 a0 a1 a2 b0 b1 b2 c0 c1 c2) := (by first | exact HB.out.next hb5 | exact HB.out.drew.next hb5 | exact (HB.out.next (below_drewN _ _)).next hb5); clear HB; have HB := Lib.hid HB2.out; clear HB2; clear hb5)
        | (go_at_call 10; (with_reducible refine (uMul _ E30.out E31.out E32.out).mono ?_); rintro e w5 ⟨rfl, hb5⟩; have HB2 : Hid (M9 w w5 a0 a1 a2 b0 b1 b2 c0 c1 c2) := (by first | exact HB.out.next hb5 | exact HB.out.drew.next hb5 | exact (HB.out.next (below_drewN _ _)).next hb5); clear HB; have HB := Lib.hid HB2.out; clear HB2; clear hb5)
        | (go_at_call 10; (with_reducible refine (uMul _ E40.out E41.out E42.out).mono ?_); rintro e w5 ⟨rfl, hb5⟩; have HB2 : Hid (M9 w w5 a0 a1 a2 b0 b1 b2 c0 c1 c2) := (by first | exact HB.out.next hb5 | exact HB.out.drew.next hb5 | exact (HB.out.next (below_drewN _ _)).next hb5); clear HB; have HB := Lib.hid HB2.out; clear HB2; clear hb5)
        | (go_at_call 10; (with_reducible refine (uMul _ E50.out E51.out E52.out).mono ?_); rintro e w5 ⟨rfl, hb5⟩; have HB2 : Hid (M9 w w5 a0 a1 a2 b0 b1 b2 c0 c1 c2) := (by first | exact HB.out.next hb5 | exact HB.out.drew.next hb5 | exact (HB.out.next (below_drewN _ _)).next hb5); clear HB; have HB := Lib.hid HB2.out; clear HB2; clear hb5))
    all_goals
      go_wp2_with fail
      go_meet
      exact ⟨rfl, HB.out⟩
  case rest =>
    clear HB
    obtain ⟨rfl, hbx⟩ := hcut
    rename World => wd
    have HB := Lib.hid hbx; clear hbx
    go_upto_region 3 with (fail)
    go_region_held3 (fun w' => w'.cell? ⟨w.heap.size, 0, none⟩ = some (.int .i64 a0) ∧ w'.cell? ⟨w.heap.size, 1, none⟩ = some (.int .i64 a1) ∧ w'.cell? ⟨w.heap.size, 2, none⟩ = some (.int .i64 a2) ∧ w'.cell? ⟨w.heap.size + 1, 0, none⟩ = some (.int .i64 b0) ∧ w'.cell? ⟨w.heap.size + 1, 1, none⟩ = some (.int .i64 b1) ∧ w'.cell? ⟨w.heap.size + 1, 2, none⟩ = some (.int .i64 b2) ∧ w'.cell? ⟨w.heap.size + 1 + 1, 0, none⟩ = some (.int .i64 c0) ∧ w'.cell? ⟨w.heap.size + 1 + 1, 1, none⟩ = some (.int .i64 c1) ∧ w'.cell? ⟨w.heap.size + 1 + 1, 2, none⟩ = some (.int .i64 c2))
      (first | with_reducible exact HB.out.cells | with_reducible exact HB.out.drew.cells | with_reducible exact (HB.out.next (below_drewN _ _)).cells | go_keep)
      (first
        | (go_at_call 10; (with_reducible refine (uMul _ E10.out E11.out E12.out).mono ?_); rintro e w5 ⟨rfl, hb5⟩; have HB2 : Hid (M9 w w5 a0 a1 a2 b0 b1 b2 c0 c1 c2) := (by first | exact HB.out.next hb5 | exact HB.out.drew.next hb5 | exact (HB.out.next (below_drewN _ _)).next hb5); clear HB; have HB := Lib.hid HB2.out; clear HB2; clear hb5)
        | (go_at_call 12; (with_reducible refine (uDiv _ E60.out E61.out E62.out).mono ?_); rintro e w5 ⟨rfl, hb5⟩; have HB2 : Hid (M9 w w5 a0 a1 a2 b0 b1 b2 c0 c1 c2) := (by first | exact HB.out.next hb5 | exact HB.out.drew.next hb5 | exact (HB.out.next (below_drewN _ _)).next hb5); clear HB; have HB := Lib.hid HB2.out; clear HB2; clear hb5)
        | (go_at_call 12; (with_reducible refine (uDiv _ E70.out E71.out E72.out).mono ?_); rintro e w5 ⟨rfl, hb5⟩; have HB2 : Hid (M9 w w5 a0 a1 a2 b0 b1 b2 c0 c1 c2) := (by first | exact HB.out.next hb5 | exact HB.out.drew.next hb5 | exact (HB.out.next (below_drewN _ _)).next hb5); clear HB; have HB := Lib.hid HB2.out; clear HB2; clear hb5)
        | (go_at_call 10; (with_reducible refine (uMul _ E80.out E81.out E82.out).mono ?_); rintro e w5 ⟨rfl, hb5⟩; have HB2 : Hid (M9 w w5 a0 a1 a2 b0 b1 b2 c0 c1 c2) := (by first | exact HB.out.next hb5 | exact HB.out.drew.next hb5 | exact (HB.out.next (below_drewN _ _)).next hb5); clear HB; have HB := Lib.hid HB2.out; clear HB2; clear hb5)
        | (go_at_call 12; (with_reducible refine (uDiv _ E90.out E91.out E92.out).mono ?_); rintro e w5 ⟨rfl, hb5⟩; have HB2 : Hid (M9 w w5 a0 a1 a2 b0 b1 b2 c0 c1 c2) := (by first | exact HB.out.next hb5 | exact HB.out.drew.next hb5 | exact (HB.out.next (below_drewN _ _)).next hb5); clear HB; have HB := Lib.hid HB2.out; clear HB2; clear hb5)
        | (go_at_call 16; refine (lives_true _ (by first | exact HW.out.below HB.out.below | exact HW.out.below HB.out.drew.below)).mono ?_; rintro e w5 ⟨rfl, hb5⟩; have HB2 : Hid (M9 w w5 a0 a1 a2 b0 b1 b2 c0 c1 c2) := (by first | exact HB.out.next hb5 | exact HB.out.drew.next hb5); clear HB; have HB := Lib.hid HB2.out; clear HB2; clear hb5))
    all_goals
      go_wp2_with fail
      go_ret
      exact ⟨rfl, HB.out.below⟩
end
section
open Go.ChangeShapes Go.WideShapes Go.ChangeAt Go.RowKit

theorem own : ownKnob Tryd.prog.godebug = none := by kernel_rfl
theorem laidOut : laidOutB Tryd.prog = true := by kernel_rfl
/-- the wrap, with the listed variables and the world's shape both handed on -/
theorem handed_both {H : Type} {enc : TypeId × Value → H} {a : Assume} {C : Checked} {os : Os} {f : FuncId} {fn : Func} {s : ChangeSpec} {conds : List PathCond} {apart fresh handsOn again : Bool} {X : World → Array Value → Prop}
    (hX : ∀ (w w' : World) (args : Array Value), w.heap = w'.heap → X w args → X w' args)
    (own : ownKnob C.prog.godebug = none) (started : os.Started) (noInit : C.prog.inits.idxOf? f = none) (hfn : C.prog.funcs[f]? = some fn)
    (witness : ∃ (w : World) (tape : Tape) (i : Input), w.os = os ∧ (w.forCall tape i).Shaped C.prog ∧ i.vars = [] ∧ Input.okWide C.prog (w.forCall tape i) .any w.heap.size f i ∧
      ((s.pre enc C.prog fn conds apart (w.forCall tape i).memory i.args ∧ X (w.forCall tape i).memory i.args) ∧ sizedMet enc C.prog fn (OpenSpec.ofChange s) apart (w.forCall tape i).memory i.args) ∧ a.holds C.prog (lone (Frame.enter C.prog f i.args .normal) [] (w.forCall tape i)))
    (contract : ∀ (W : World) (base : Nat) (args : Array Value) (ds gs : List (DataW H)) (before : List MemPlace),
      (∀ (j : Nat) t v, fn.params[j]? = some t → args[j]? = some v → Value.okWide C.prog W .any base t v) →
      DataW.Whole enc C.prog fn.params.toList s.vars apart W args.toList ds gs before →
      X W args → W.ShapedOpen C.prog →
      Calls C.prog f args W fun e W' => ∃ v, e = .returned v ∧ s.post enc C.prog fn apart fresh handsOn again W args v W') :
    ReturnsInHanded a C os f .any (fun w args => (s.pre enc C.prog fn conds apart w args ∧ X w args) ∧ sizedMet enc C.prog fn (OpenSpec.ofChange s) apart w args) (s.post enc C.prog fn apart fresh handsOn again) := by
  refine returnsInHanded_of_calls own started noInit witness ?_
  intro w tape i _ hsh _ hok hpre hholds
  obtain ⟨_, _, _, fn', hfn', _, _, _, _, hval⟩ := hok
  have e : fn' = fn := Option.some.inj (hfn'.symm.trans hfn)
  subst e
  obtain ⟨⟨⟨ds, gs, before, hw, hc⟩, hx⟩, hz⟩ := hpre
  have hw' := DataW.Whole.of_heap (w' := w.forCall tape i) (by rfl) hw
  refine (contract (w.forCall tape i) w.heap.size i.args ds gs before hval hw' (hX _ _ _ (by rfl) hx) hsh).mono fun e W' ⟨v, he, hp⟩ => ?_
  subst he
  exact ChangeSpec.post_blind hp

def laid5 : List (String × DataW Unit) := [("math/bits.deBruijn32tab", Rows.laid_math_bits_deBruijn32tab), ("math/bits.deBruijn64tab", Rows.laid_math_bits_deBruijn64tab), ("internal/strconv.uint64pow10", Rows.laid_internal_strconv_uint64pow10), ("intervalmon/parser.groupWords", Rows.laid_intervalmon_parser_groupWords), ("intervalmon/types.unitNames", Rows.laid_intervalmon_types_unitNames)]
theorem door_met (os : Os) (args : Array Value) : laidMetH Tryd.prog laid5 ((World.doorLaid Tryd.prog 400 os).forCall (fun _ _ => 0) ⟨#[], args, []⟩).memory :=
  laidMetH_of_parts3 (fuel := 8) (laidMet_of_run' 8 (by kernel_rfl) (by kernel_rfl)) (by kernel_rfl) (by kernel_rfl)
theorem gGrp : Tryd.prog.globalNamed "intervalmon/parser.groupWords" = some 1 := by kernel_rfl
theorem tGrp : (Tryd.prog.globals[1]?).map (·.type) = some 111 := by kernel_rfl
theorem gUni : Tryd.prog.globalNamed "intervalmon/types.unitNames" = some 0 := by kernel_rfl
theorem tUni : (Tryd.prog.globals[0]?).map (·.type) = some 60 := by kernel_rfl
theorem cStr : Tryd.prog.cellsOf 9 = 1 := by kernel_rfl
theorem var_cells {n : String} {g : Nat} {w : World} {cs : Array Value} (hg : Tryd.prog.globalNamed n = some g) (h : w.var? Tryd.prog n = some cs) : g < w.heap.size ∧ ∀ (k : Nat) (v : Value), cs[k]? = some v → w.cell? ⟨g, k, none⟩ = some v := by
  unfold World.var? at h
  rw [hg] at h
  simp only [Option.bind_some] at h
  have hlt : g < w.heap.size := by
    rcases Nat.lt_or_ge g w.heap.size with h' | h'
    · exact h'
    · rw [Array.getElem?_eq_none h'] at h; cases h
  refine ⟨hlt, fun k v hk => ?_⟩
  unfold World.cell?
  revert h
  cases hh : w.heap[g]? with
  | none => intro h; cases h
  | some o =>
    cases o <;> intro h <;> simp_all
theorem str_trod {H : Type} {enc : TypeId × Value → H} {P : Program} {w : World} {base : Nat} {sp : Nat → Bool} {held : Bool} {fuel : Nat} {t : TypeId} {cs : List Value} {d : DataW H} {p : List MemPlace} {l : List UInt8}
    (ht : P.underlying t = some .string) (h : DataW.trod enc P w base sp held fuel t cs = some (d, p)) (hd : d = .lit (.string l)) : cs = [.string ⟨l.toArray⟩] := by
  obtain ⟨s, hc, hx, _⟩ := DataW.trod_string ht h
  have h1 := congrArg Prod.fst hx
  simp only at h1
  rw [hd] at h1
  simp only [DataW.lit.injEq, Lit.string.injEq] at h1
  rw [hc, h1]
/-- the strings of an array that was laid -/
theorem strs_of {W : World} {n : Nat} {t : TypeId} {f : Nat} {cs : Array Value} {ls : List (List UInt8)} {p : List MemPlace} {enc : TypeId × Value → Unit} {base : Nat} {sp : Nat → Bool} {held : Bool} (hu : Tryd.prog.underlying t = some (.array n 9)) (hl : ls.length = n)
    (hd : DataW.trod enc Tryd.prog W base sp held f t cs.toList = some (.agg (ls.map fun l => .lit (.string l)), p)) : ∀ (i : Nat) (l : List UInt8), ls[i]? = some l → cs[i]? = some (Value.string ⟨l.toArray⟩) := by
  obtain ⟨xs, m1, rfl, hx1, hlen, hn3, hel⟩ := DataW.trod_array hu hd
  have hx := congrArg Prod.fst hx1
  simp only [DataW.agg.injEq] at hx
  intro i l hi
  obtain ⟨hlt, rfl⟩ := List.getElem?_eq_some_iff.1 hi
  have he := hel i (by omega)
  rw [cStr, Nat.mul_one] at he
  have hxl : i < xs.length := by omega
  rw [List.getElem?_eq_getElem hxl] at he
  have hxi : xs[i].1 = .lit (.string ls[i]) := by
    have h2 : (xs.map (·.1))[i]? = (ls.map fun l => (DataW.lit (.string l) : DataW Unit))[i]? := by rw [← hx]
    rw [List.getElem?_map, List.getElem?_map, List.getElem?_eq_getElem hxl, List.getElem?_eq_getElem hlt] at h2
    simpa using h2
  have hc := str_trod (l := ls[i]) Tryd.underlying9 (d := xs[i].1) (p := xs[i].2) he hxi
  have h0 : ((cs.toList.drop i).take 1)[0]? = some (.string ⟨ls[i].toArray⟩) := by rw [hc]; rfl
  rw [List.getElem?_take, if_pos (by omega), List.getElem?_drop, Nat.add_zero] at h0
  simpa using h0
theorem words_of_laid {W : World} (h : laidMetH Tryd.prog laid5 W) : WordsW W := by
  rw [MakeChecks.laidMetH_plain _ _ _ (by kernel_rfl)] at h
  obtain ⟨ps, ⟨g0, t0, cs0, f0, p0, q0, hg0, ht0, hv0, hd0, ⟨g1, t1, cs1, f1, p1, q1, hg1, ht1, hv1, hd1, ⟨g2, t2, cs2, f2, p2, q2, hg2, ht2, hv2, hd2, ⟨g3, t3, cs3, f3, p3, q3, hg3, ht3, hv3, hd3, ⟨g4, t4, cs4, f4, p4, q4, hg4, ht4, hv4, hd4, _, _⟩, _⟩, _⟩, _⟩, _⟩, _, _⟩ := h
  obtain rfl := Option.some.inj (gGrp.symm.trans hg3)
  obtain rfl := Option.some.inj (tGrp.symm.trans ht3)
  obtain rfl := Option.some.inj (gUni.symm.trans hg4)
  obtain rfl := Option.some.inj (tUni.symm.trans ht4)
  obtain ⟨z3, k3⟩ := var_cells gGrp hv3
  obtain ⟨z4, k4⟩ := var_cells gUni hv4
  have s3 := strs_of (ls := [[115, 117, 109], [109, 105, 110], [109, 97, 120], [99, 111, 117, 110, 116], [107, 116, 104]]) Tryd.underlying111 rfl hd3
  have s4 := strs_of (ls := [[105, 116, 101, 109], [98, 121, 116, 101], [116, 105, 99, 107]]) Tryd.underlying60 rfl hd4
  refine ⟨fun k hk => ?_, ⟨k4 0 _ (s4 0 _ rfl), k4 1 _ (s4 1 _ rfl), k4 2 _ (s4 2 _ rfl)⟩, z3, z4⟩
  have : k = 0 ∨ k = 1 ∨ k = 2 ∨ k = 3 ∨ k = 4 := by omega
  rcases this with rfl | rfl | rfl | rfl | rfl
  · exact ⟨_, k3 0 _ (s3 0 _ rfl), by decide +kernel⟩
  · exact ⟨_, k3 1 _ (s3 1 _ rfl), by decide +kernel⟩
  · exact ⟨_, k3 2 _ (s3 2 _ rfl), by decide +kernel⟩
  · exact ⟨_, k3 3 _ (s3 3 _ rfl), by decide +kernel⟩
  · exact ⟨_, k3 4 _ (s3 4 _ rfl), by decide +kernel⟩
end
end Go.Proofs.YtgomgoacponbkaaDoor
