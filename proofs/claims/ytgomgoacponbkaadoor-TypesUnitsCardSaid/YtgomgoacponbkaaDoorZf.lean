/- TypesUnits: the walk. -/
import Derived.Test.YtgomgoacponbkaaDoorZe
import Derived.Test.YtgomgoacponbkaaDoorYl
set_option linter.unusedVariables false
set_option linter.unusedSimpArgs false
namespace Go.Proofs.YtgomgoacponbkaaDoor
open Go.RowKit

def txt (a b c : Int) : ByteArray := if inU a b c then bs ((if (st3 a b c 3).1 = [] then [49] else (st3 a b c 3).1) ++ (st3 a b c 3).2) else ⟨#[]⟩
theorem inU_bd {a b c : Int} (h : inU a b c = true) : -3 ≤ a ∧ a ≤ 3 ∧ -3 ≤ b ∧ b ≤ 3 ∧ -3 ≤ c ∧ c ≤ 3 := by simp [inU, inR] at h; omega
theorem text_all {a b c : Int} {z : ByteArray} (w : World) (h : txt a b c = z) (hw : WordsW w) : Calls Tryd.prog 14 #[uv a b c] w (RetB (.string z) w) := by
  subst h; unfold txt
  cases hu : inU a b c with
  | false => exact text_bad a b c w hu
  | true => obtain ⟨x1, x2, x3, x4, x5, x6⟩ := inU_bd hu; exact text_any a b c w hw x1 x2 x3 x4 x5 x6
theorem rtext_all {a b c : Int} {z : ByteArray} (w : World) (h : txt a b c = z) : Calls Tryd.prog 15 #[uv a b c] w (RetB (.string z) w) := by
  subst h; unfold txt
  cases hu : inU a b c with
  | false => exact rtext_bad a b c w hu
  | true => obtain ⟨x1, x2, x3, x4, x5, x6⟩ := inU_bd hu; exact rtext_any a b c w x1 x2 x3 x4 x5 x6
structure MA (w W : World) (a0 a1 a2 b0 b1 b2 : Int) : Prop where
  below : Below w.heap.size w W
  A : Blk W w.heap.size 23 #[.int .i64 a0, .int .i64 a1, .int .i64 a2]
  B : Blk W (w.heap.size + 1) 23 #[.int .i64 b0, .int .i64 b1, .int .i64 b2]
theorem MA.next {w W W' : World} {a0 a1 a2 b0 b1 b2 : Int} (h : MA w W a0 a1 a2 b0 b1 b2) (hb : Below W.heap.size W W') : MA w W' a0 a1 a2 b0 b1 b2 := ⟨bthen h.below hb (Nat.le_refl _), h.A.below hb, h.B.below hb⟩
theorem MA.start (w : World) (a0 a1 a2 b0 b1 b2 : Int) : MA w ((w.alloc (.cells #[.int .i64 a0, .int .i64 a1, .int .i64 a2] 23)).alloc (.cells #[.int .i64 b0, .int .i64 b1, .int .i64 b2] 23)) a0 a1 a2 b0 b1 b2 := ⟨bel2 _ _ _, (Blk.new _ _ _).alloc _, Blk.newAt _ _ (by simp)⟩
structure MU (w W : World) (p q : Nat) (a0 a1 a2 b0 b1 b2 u0 u1 u2 v0 v1 v2 : Int) : Prop where
  below : Below w.heap.size w W
  A : Blk W w.heap.size 23 #[.int .i64 a0, .int .i64 a1, .int .i64 a2]
  B : Blk W (w.heap.size + 1) 23 #[.int .i64 b0, .int .i64 b1, .int .i64 b2]
  U : Blk W p 23 #[.int .i64 u0, .int .i64 u1, .int .i64 u2]
  V : Blk W q 23 #[.int .i64 v0, .int .i64 v1, .int .i64 v2]
theorem MU.next {w W W' : World} {p q : Nat} {a0 a1 a2 b0 b1 b2 u0 u1 u2 v0 v1 v2 : Int} (h : MU w W p q a0 a1 a2 b0 b1 b2 u0 u1 u2 v0 v1 v2) (hb : Below W.heap.size W W') : MU w W' p q a0 a1 a2 b0 b1 b2 u0 u1 u2 v0 v1 v2 := ⟨bthen h.below hb (Nat.le_refl _), h.A.below hb, h.B.below hb, h.U.below hb, h.V.below hb⟩
theorem MU.drew {w W : World} {p q : Nat} {a0 a1 a2 b0 b1 b2 u0 u1 u2 v0 v1 v2 : Int} (h : MU w W p q a0 a1 a2 b0 b1 b2 u0 u1 u2 v0 v1 v2) : MU w W.drew p q a0 a1 a2 b0 b1 b2 u0 u1 u2 v0 v1 v2 := h.next (below_drewN W 1)
theorem MU.cells {w w' : World} {p q : Nat} {a0 a1 a2 b0 b1 b2 u0 u1 u2 v0 v1 v2 : Int} (h : MU w w' p q a0 a1 a2 b0 b1 b2 u0 u1 u2 v0 v1 v2) : w'.cell? ⟨w.heap.size, 0, none⟩ = some (.int .i64 a0) ∧ w'.cell? ⟨w.heap.size, 1, none⟩ = some (.int .i64 a1) ∧ w'.cell? ⟨w.heap.size, 2, none⟩ = some (.int .i64 a2) ∧ w'.cell? ⟨w.heap.size + 1, 0, none⟩ = some (.int .i64 b0) ∧ w'.cell? ⟨w.heap.size + 1, 1, none⟩ = some (.int .i64 b1) ∧ w'.cell? ⟨w.heap.size + 1, 2, none⟩ = some (.int .i64 b2) ∧ w'.cell? ⟨p, 0, none⟩ = some (.int .i64 u0) ∧ w'.cell? ⟨p, 1, none⟩ = some (.int .i64 u1) ∧ w'.cell? ⟨p, 2, none⟩ = some (.int .i64 u2) ∧ w'.cell? ⟨q, 0, none⟩ = some (.int .i64 v0) ∧ w'.cell? ⟨q, 1, none⟩ = some (.int .i64 v1) ∧ w'.cell? ⟨q, 2, none⟩ = some (.int .i64 v2) :=
  ⟨h.A.c3.1, h.A.c3.2.1, h.A.c3.2.2, h.B.c3.1, h.B.c3.2.1, h.B.c3.2.2, h.U.c3.1, h.U.c3.2.1, h.U.c3.2.2, h.V.c3.1, h.V.c3.2.1, h.V.c3.2.2⟩
set_option maxHeartbeats 8000000 in
set_option maxRecDepth 100000 in
theorem typesUnits_walk (a0 a1 a2 b0 b1 b2 m n : Int) (w : World) (hw : WordsW w) (la0 : -9223372036854775808 ≤ a0) (ra0 : a0 ≤ 9223372036854775807) (la1 : -9223372036854775808 ≤ a1) (ra1 : a1 ≤ 9223372036854775807) (la2 : -9223372036854775808 ≤ a2) (ra2 : a2 ≤ 9223372036854775807) (lb0 : -9223372036854775808 ≤ b0) (rb0 : b0 ≤ 9223372036854775807) (lb1 : -9223372036854775808 ≤ b1) (rb1 : b1 ≤ 9223372036854775807) (lb2 : -9223372036854775808 ≤ b2) (rb2 : b2 ≤ 9223372036854775807) (lm : -9223372036854775808 ≤ m) (rm : m ≤ 9223372036854775807) (ln : -9223372036854775808 ≤ n) (rn : n ≤ 9223372036854775807) :
    Calls Tryd.prog 3 #[uv a0 a1 a2, uv b0 b1 b2, .int .i64 m, .int .i64 n] w fun e w' => e = .returned (.bool true) ∧ Below w.heap.size w w' := by
  have HW := Box.mk hw; clear hw
  have BM := Box.mk (And.intro lm rm)
  have BN := Box.mk (And.intro ln rn)
  clear la0 ra0 la1 ra1 la2 ra2 lb0 rb0 lb1 rb1 lb2 rb2 lm rm ln rn
  have q := eq_uv
  go_enter Tryd.func3, Tryd.ntmps3
  have HB := Lib.hid (MA.start w a0 a1 a2 b0 b1 b2)
  go_upto_region 1 with (fail)
  generalize ((w.alloc (.cells #[.int .i64 a0, .int .i64 a1, .int .i64 a2] 23)).alloc (.cells #[.int .i64 b0, .int .i64 b1, .int .i64 b2] 23)) = W at HB ⊢
  go_wp2_with fail
  refine (unit_any m _ BM.out.1 BM.out.2).mono ?_
  rintro e w1 ⟨u0, u1, u2, rfl, -, hb⟩
  have HB2 := Lib.hid (HB.out.next hb); clear HB hb
  go_upto_region 2 with (fail)
  have HU : Hid (Blk (w1.alloc (.cells #[.int .i64 u0, .int .i64 u1, .int .i64 u2] 23)) w1.heap.size 23 #[.int .i64 u0, .int .i64 u1, .int .i64 u2]) := Blk.new _ _ _
  have HB := Lib.hid (HB2.out.next (bel1 w1 (.cells #[.int .i64 u0, .int .i64 u1, .int .i64 u2] 23))); clear HB2
  generalize w1.heap.size = p at *
  generalize w1.alloc (.cells #[.int .i64 u0, .int .i64 u1, .int .i64 u2] 23) = W1 at *
  go_wp2_with fail
  refine (unit_any n _ BN.out.1 BN.out.2).mono ?_
  rintro e w2 ⟨v0, v1, v2, rfl, -, hb⟩
  have HB2 := Lib.hid (HB.out.next hb)
  have HU2 := Lib.hid (HU.out.below hb); clear HB HU hb
  go_upto_region 3 with (fail)
  have HV : Hid (Blk (w2.alloc (.cells #[.int .i64 v0, .int .i64 v1, .int .i64 v2] 23)) w2.heap.size 23 #[.int .i64 v0, .int .i64 v1, .int .i64 v2]) := Blk.new _ _ _
  have HB3 := Lib.hid (HB2.out.next (bel1 w2 (.cells #[.int .i64 v0, .int .i64 v1, .int .i64 v2] 23))); clear HB2
  have HU := Lib.hid (HU2.out.alloc (.cells #[.int .i64 v0, .int .i64 v1, .int .i64 v2] 23)); clear HU2
  generalize w2.heap.size = q at *
  generalize w2.alloc (.cells #[.int .i64 v0, .int .i64 v1, .int .i64 v2] 23) = W2 at *
  have HB : Hid (MU w W2 p q a0 a1 a2 b0 b1 b2 u0 u1 u2 v0 v1 v2) := ⟨HB3.out.below, HB3.out.A, HB3.out.B, HU.out, HV.out⟩
  clear HB3 HU HV
  obtain ⟨m0, hm0⟩ : ∃ z, W64 (a0 + b0) = z := ⟨_, rfl⟩
  have M0 := Box.mk hm0; clear hm0
  obtain ⟨m1, hm1⟩ : ∃ z, W64 (a1 + b1) = z := ⟨_, rfl⟩
  have M1 := Box.mk hm1; clear hm1
  obtain ⟨m2, hm2⟩ : ∃ z, W64 (a2 + b2) = z := ⟨_, rfl⟩
  have M2 := Box.mk hm2; clear hm2
  obtain ⟨d0, hd0⟩ : ∃ z, W64 (a0 - b0) = z := ⟨_, rfl⟩
  have D0 := Box.mk hd0; clear hd0
  obtain ⟨d1, hd1⟩ : ∃ z, W64 (a1 - b1) = z := ⟨_, rfl⟩
  have D1 := Box.mk hd1; clear hd1
  obtain ⟨d2, hd2⟩ : ∃ z, W64 (a2 - b2) = z := ⟨_, rfl⟩
  have D2 := Box.mk hd2; clear hd2
  obtain ⟨s0, hs0⟩ : ∃ z, W64 (u0 + v0) = z := ⟨_, rfl⟩
  have S0 := Box.mk hs0; clear hs0
  obtain ⟨s1, hs1⟩ : ∃ z, W64 (u1 + v1) = z := ⟨_, rfl⟩
  have S1 := Box.mk hs1; clear hs1
  obtain ⟨s2, hs2⟩ : ∃ z, W64 (u2 + v2) = z := ⟨_, rfl⟩
  have S2 := Box.mk hs2; clear hs2
  obtain ⟨t0, ht0⟩ : ∃ z, W64 (u0 - v0) = z := ⟨_, rfl⟩
  have T0 := Box.mk ht0; clear ht0
  obtain ⟨t1, ht1⟩ : ∃ z, W64 (u1 - v1) = z := ⟨_, rfl⟩
  have T1 := Box.mk ht1; clear ht1
  obtain ⟨t2, ht2⟩ : ∃ z, W64 (u2 - v2) = z := ⟨_, rfl⟩
  have T2 := Box.mk ht2; clear ht2
  obtain ⟨xa, hxa⟩ : ∃ z, txt a0 a1 a2 = z := ⟨_, rfl⟩
  have Xa := Box.mk hxa; clear hxa
  obtain ⟨xu, hxu⟩ : ∃ z, txt u0 u1 u2 = z := ⟨_, rfl⟩
  have Xu := Box.mk hxu; clear hxu
  go_cut [37] (fun x wx => x = .bool false ∧ MU w wx p q a0 a1 a2 b0 b1 b2 u0 u1 u2 v0 v1 v2)
  case first =>
    go_region_held3 (fun w' => w'.cell? ⟨w.heap.size, 0, none⟩ = some (.int .i64 a0) ∧ w'.cell? ⟨w.heap.size, 1, none⟩ = some (.int .i64 a1) ∧ w'.cell? ⟨w.heap.size, 2, none⟩ = some (.int .i64 a2) ∧ w'.cell? ⟨w.heap.size + 1, 0, none⟩ = some (.int .i64 b0) ∧ w'.cell? ⟨w.heap.size + 1, 1, none⟩ = some (.int .i64 b1) ∧ w'.cell? ⟨w.heap.size + 1, 2, none⟩ = some (.int .i64 b2) ∧ w'.cell? ⟨p, 0, none⟩ = some (.int .i64 u0) ∧ w'.cell? ⟨p, 1, none⟩ = some (.int .i64 u1) ∧ w'.cell? ⟨p, 2, none⟩ = some (.int .i64 u2) ∧ w'.cell? ⟨q, 0, none⟩ = some (.int .i64 v0) ∧ w'.cell? ⟨q, 1, none⟩ = some (.int .i64 v1) ∧ w'.cell? ⟨q, 2, none⟩ = some (.int .i64 v2))
      (first | with_reducible exact HB.out.cells | with_reducible exact HB.out.drew.cells | with_reducible exact (HB.out.next (below_drewN _ _)).cells | go_keep)
      (first
        | (go_at_call 10; (with_reducible refine (uMul _ M0.out M1.out M2.out).mono ?_); rintro e w5 ⟨rfl, hb5⟩; have HB2 : Hid (MU w w5 p q a0 a1 a2 b0 b1 b2 u0 u1 u2 v0 v1 v2) := (by first | exact HB.out.next hb5 | exact HB.out.drew.next hb5 | exact (HB.out.next (below_drewN _ _)).next hb5); clear HB; have HB := Lib.hid HB2.out; clear HB2; clear hb5)
        | (go_at_call 11; (with_reducible refine (ruMul _ M0.out M1.out M2.out).mono ?_); rintro e w5 ⟨rfl, hb5⟩; have HB2 : Hid (MU w w5 p q a0 a1 a2 b0 b1 b2 u0 u1 u2 v0 v1 v2) := (by first | exact HB.out.next hb5 | exact HB.out.drew.next hb5 | exact (HB.out.next (below_drewN _ _)).next hb5); clear HB; have HB := Lib.hid HB2.out; clear HB2; clear hb5)
        | (go_at_call 12; (with_reducible refine (uDiv _ D0.out D1.out D2.out).mono ?_); rintro e w5 ⟨rfl, hb5⟩; have HB2 : Hid (MU w w5 p q a0 a1 a2 b0 b1 b2 u0 u1 u2 v0 v1 v2) := (by first | exact HB.out.next hb5 | exact HB.out.drew.next hb5 | exact (HB.out.next (below_drewN _ _)).next hb5); clear HB; have HB := Lib.hid HB2.out; clear HB2; clear hb5)
        | (go_at_call 13; (with_reducible refine (ruDiv _ D0.out D1.out D2.out).mono ?_); rintro e w5 ⟨rfl, hb5⟩; have HB2 : Hid (MU w w5 p q a0 a1 a2 b0 b1 b2 u0 u1 u2 v0 v1 v2) := (by first | exact HB.out.next hb5 | exact HB.out.drew.next hb5 | exact (HB.out.next (below_drewN _ _)).next hb5); clear HB; have HB := Lib.hid HB2.out; clear HB2; clear hb5)
        | (go_at_call 14; (refine (text_all _ Xa.out (by first | exact HW.out.below HB.out.below | exact HW.out.below HB.out.drew.below)).mono ?_); rintro e w5 ⟨rfl, hb5⟩; have HB2 : Hid (MU w w5 p q a0 a1 a2 b0 b1 b2 u0 u1 u2 v0 v1 v2) := (by first | exact HB.out.next hb5 | exact HB.out.drew.next hb5 | exact (HB.out.next (below_drewN _ _)).next hb5); clear HB; have HB := Lib.hid HB2.out; clear HB2; clear hb5)
        | (go_at_call 15; (with_reducible refine (rtext_all _ Xa.out).mono ?_); rintro e w5 ⟨rfl, hb5⟩; have HB2 : Hid (MU w w5 p q a0 a1 a2 b0 b1 b2 u0 u1 u2 v0 v1 v2) := (by first | exact HB.out.next hb5 | exact HB.out.drew.next hb5 | exact (HB.out.next (below_drewN _ _)).next hb5); clear HB; have HB := Lib.hid HB2.out; clear HB2; clear hb5))
    all_goals
      go_wp2_with fail
      go_meet
      exact ⟨rfl, HB.out⟩
  case rest =>
    clear HB
    obtain ⟨rfl, hbx⟩ := hcut
    rename World => wd
    have HB := Lib.hid hbx; clear hbx
    go_upto_region 5 with (fail)
    go_region_held3 (fun w' => w'.cell? ⟨w.heap.size, 0, none⟩ = some (.int .i64 a0) ∧ w'.cell? ⟨w.heap.size, 1, none⟩ = some (.int .i64 a1) ∧ w'.cell? ⟨w.heap.size, 2, none⟩ = some (.int .i64 a2) ∧ w'.cell? ⟨w.heap.size + 1, 0, none⟩ = some (.int .i64 b0) ∧ w'.cell? ⟨w.heap.size + 1, 1, none⟩ = some (.int .i64 b1) ∧ w'.cell? ⟨w.heap.size + 1, 2, none⟩ = some (.int .i64 b2) ∧ w'.cell? ⟨p, 0, none⟩ = some (.int .i64 u0) ∧ w'.cell? ⟨p, 1, none⟩ = some (.int .i64 u1) ∧ w'.cell? ⟨p, 2, none⟩ = some (.int .i64 u2) ∧ w'.cell? ⟨q, 0, none⟩ = some (.int .i64 v0) ∧ w'.cell? ⟨q, 1, none⟩ = some (.int .i64 v1) ∧ w'.cell? ⟨q, 2, none⟩ = some (.int .i64 v2))
      (first | with_reducible exact HB.out.cells | with_reducible exact HB.out.drew.cells | with_reducible exact (HB.out.next (below_drewN _ _)).cells | go_keep)
      (first
        | (go_at_call 10; (with_reducible refine (uMul _ S0.out S1.out S2.out).mono ?_); rintro e w5 ⟨rfl, hb5⟩; have HB2 : Hid (MU w w5 p q a0 a1 a2 b0 b1 b2 u0 u1 u2 v0 v1 v2) := (by first | exact HB.out.next hb5 | exact HB.out.drew.next hb5 | exact (HB.out.next (below_drewN _ _)).next hb5); clear HB; have HB := Lib.hid HB2.out; clear HB2; clear hb5)
        | (go_at_call 11; (with_reducible refine (ruMul _ S0.out S1.out S2.out).mono ?_); rintro e w5 ⟨rfl, hb5⟩; have HB2 : Hid (MU w w5 p q a0 a1 a2 b0 b1 b2 u0 u1 u2 v0 v1 v2) := (by first | exact HB.out.next hb5 | exact HB.out.drew.next hb5 | exact (HB.out.next (below_drewN _ _)).next hb5); clear HB; have HB := Lib.hid HB2.out; clear HB2; clear hb5)
        | (go_at_call 12; (with_reducible refine (uDiv _ T0.out T1.out T2.out).mono ?_); rintro e w5 ⟨rfl, hb5⟩; have HB2 : Hid (MU w w5 p q a0 a1 a2 b0 b1 b2 u0 u1 u2 v0 v1 v2) := (by first | exact HB.out.next hb5 | exact HB.out.drew.next hb5 | exact (HB.out.next (below_drewN _ _)).next hb5); clear HB; have HB := Lib.hid HB2.out; clear HB2; clear hb5)
        | (go_at_call 13; (with_reducible refine (ruDiv _ T0.out T1.out T2.out).mono ?_); rintro e w5 ⟨rfl, hb5⟩; have HB2 : Hid (MU w w5 p q a0 a1 a2 b0 b1 b2 u0 u1 u2 v0 v1 v2) := (by first | exact HB.out.next hb5 | exact HB.out.drew.next hb5 | exact (HB.out.next (below_drewN _ _)).next hb5); clear HB; have HB := Lib.hid HB2.out; clear HB2; clear hb5)
        | (go_at_call 14; (refine (text_all _ Xu.out (by first | exact HW.out.below HB.out.below | exact HW.out.below HB.out.drew.below)).mono ?_); rintro e w5 ⟨rfl, hb5⟩; have HB2 : Hid (MU w w5 p q a0 a1 a2 b0 b1 b2 u0 u1 u2 v0 v1 v2) := (by first | exact HB.out.next hb5 | exact HB.out.drew.next hb5 | exact (HB.out.next (below_drewN _ _)).next hb5); clear HB; have HB := Lib.hid HB2.out; clear HB2; clear hb5)
        | (go_at_call 15; (with_reducible refine (rtext_all _ Xu.out).mono ?_); rintro e w5 ⟨rfl, hb5⟩; have HB2 : Hid (MU w w5 p q a0 a1 a2 b0 b1 b2 u0 u1 u2 v0 v1 v2) := (by first | exact HB.out.next hb5 | exact HB.out.drew.next hb5 | exact (HB.out.next (below_drewN _ _)).next hb5); clear HB; have HB := Lib.hid HB2.out; clear HB2; clear hb5)
        | (go_at_call 16; (refine (lives_true _ (by first | exact HW.out.below HB.out.below | exact HW.out.below HB.out.drew.below)).mono ?_); rintro e w5 ⟨rfl, hb5⟩; have HB2 : Hid (MU w w5 p q a0 a1 a2 b0 b1 b2 u0 u1 u2 v0 v1 v2) := (by first | exact HB.out.next hb5 | exact HB.out.drew.next hb5 | exact (HB.out.next (below_drewN _ _)).next hb5); clear HB; have HB := Lib.hid HB2.out; clear HB2; clear hb5))
    all_goals
      go_wp2_with fail
      go_ret
      exact ⟨rfl, HB.out.below⟩
end Go.Proofs.YtgomgoacponbkaaDoor
