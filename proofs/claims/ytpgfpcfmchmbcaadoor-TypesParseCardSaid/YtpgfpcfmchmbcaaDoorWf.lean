/- TypesRound: the walk. -/
import Derived.Test.YtpgfpcfmchmbcaaDoorWd
set_option linter.unusedVariables false
set_option linter.unusedSimpArgs false
namespace Go.Proofs.YtpgfpcfmchmbcaaDoor
open Go.RowKit FracM

theorem eq_units (u v : V3) (W : World) : (Op.equalIn 10000 23 (uv u.1 u.2.1 u.2.2) (uv v.1 v.2.1 v.2.2)).run Tryd.prog W = .ok (decide (u = v)) W := by
  obtain ⟨x, y, z⟩ := u
  obtain ⟨x', y', z'⟩ := v
  have h : (Op.equalIn 10000 23 (uv x y z) (uv x' y' z')).run Tryd.prog W = .ok ((x == x') && (y == y') && (z == z')) W := by
    obtain ⟨i, hi⟩ : ∃ i, Tryd.prog.info? 3 = some i := Option.isSome_iff_exists.1 (by kernel_rfl)
    have hc : Tryd.prog.cellsOf 3 = 1 := by kernel_rfl
    rw [show (10000 : Nat) = 9999 + 1 from rfl, run_equalIn_array W 9999 _ _ Tryd.underlying23 hi, hc, show List.range 3 = [0, 1, 2] from rfl]
    have h1 : ∀ x y : Int, ∀ w, (Op.equalIn 9999 3 (.int .i64 x) (.int .i64 y)).run Tryd.prog w = .ok (x == y) w := fun x y w => run_equalIn_int w 9998 _ _ _ _ _ Tryd.underlying3
    simp only [Op.eqItems, go_sem, h1]
    by_cases e1 : x = x' <;> by_cases e2 : y = y' <;> by_cases e3 : z = z' <;> simp [go_sem, h1, e1, e2, e3]
  refine h.trans (congrArg (fun b => Result.ok b W) ?_)
  rw [Bool.eq_iff_iff]; simp [and_assoc]
theorem tx_len (u : V3) : (txL u).length ≤ 43 := by
  unfold txL
  split
  · have := st3_len u.1 u.2.1 u.2.2 3
    split <;> simp <;> omega
  · simp
def preV (u : V3) (k : Nat) : Bool := match k with | 0 => true | 1 => in7 u.1 | 2 => in7 u.1 && in7 u.2.1 | _ => okV u
structure MV (w W : World) (p q : Nat) (u v : V3) : Prop where
  below : Below w.heap.size w W
  U : Blk W p 23 (vC u)
  V : Blk W q 23 (vC v)
theorem MV.next {w W W' : World} {p q : Nat} {u v : V3} (h : MV w W p q u v) (hb : Below W.heap.size W W') : MV w W' p q u v := ⟨bthen h.below hb (Nat.le_refl _), h.U.below hb, h.V.below hb⟩
theorem MV.comp {w W : World} {p q : Nat} {u v : V3} (h : MV w W p q u v) (k : Nat) (hk : k < 3) : ∃ x, W.cell? ⟨p, k, none⟩ = some (.int .i64 x) ∧ preV u (k + 1) = (preV u k && in7 x) := by
  obtain ⟨h0, h1, h2⟩ := h.U.c3
  have : k = 0 ∨ k = 1 ∨ k = 2 := by omega
  rcases this with rfl | rfl | rfl
  · exact ⟨_, h0, by simp [preV]⟩
  · exact ⟨_, h1, rfl⟩
  · exact ⟨_, h2, rfl⟩
structure MX (w W : World) (p q r : Nat) (u v : V3) : Prop where
  below : Below w.heap.size w W
  U : Blk W p 23 (vC u)
  V : Blk W q 23 (vC v)
  X : Blk W r 23 (vC u)
theorem MX.next {w W W' : World} {p q r : Nat} {u v : V3} (h : MX w W p q r u v) (hb : Below W.heap.size W W') : MX w W' p q r u v := ⟨bthen h.below hb (Nat.le_refl _), h.U.below hb, h.V.below hb, h.X.below hb⟩
theorem MX.drew {w W : World} {p q r : Nat} {u v : V3} (h : MX w W p q r u v) : MX w W.drew p q r u v := h.next (below_drewN W 1)
theorem MX.cells {w w' : World} {p q r : Nat} {u v : V3} (h : MX w w' p q r u v) : (w'.cell? ⟨p, 0, none⟩ = some (.int .i64 u.1) ∧ w'.cell? ⟨p, 1, none⟩ = some (.int .i64 u.2.1) ∧ w'.cell? ⟨p, 2, none⟩ = some (.int .i64 u.2.2)) ∧ (w'.cell? ⟨q, 0, none⟩ = some (.int .i64 v.1) ∧ w'.cell? ⟨q, 1, none⟩ = some (.int .i64 v.2.1) ∧ w'.cell? ⟨q, 2, none⟩ = some (.int .i64 v.2.2)) ∧ w'.cell? ⟨r, 0, none⟩ = some (.int .i64 u.1) ∧ w'.cell? ⟨r, 1, none⟩ = some (.int .i64 u.2.1) ∧ w'.cell? ⟨r, 2, none⟩ = some (.int .i64 u.2.2) := ⟨h.U.c3, h.V.c3, h.X.c3⟩
theorem parM_bs (u : V3) : parM (bs (txL u)).data.toList = if okV u then (u, 0) else (v0, 2) := by
  rw [bs_data]
  cases h : okV u with
  | true => rw [if_pos rfl]; exact (par_ok h).1
  | false => rw [if_neg (by simp)]; have : txL u = [] := by unfold txL; rw [h]; rfl
             rw [this]; exact par_nil
set_option maxHeartbeats 8000000 in
set_option maxRecDepth 100000 in
theorem typesRound_walk (m n : Int) (w : World) (hw : WordsW w ∧ LibP w) (lm : -9223372036854775808 ≤ m) (rm : m ≤ 9223372036854775807) (ln : -9223372036854775808 ≤ n) (rn : n ≤ 9223372036854775807) :
    Calls Tryd.prog 3 #[.int .i64 m, .int .i64 n] w fun e w' => e = .returned (.bool true) ∧ Below w.heap.size w w' := by
  have HW := Box.mk hw; clear hw
  have BM := Box.mk (And.intro lm rm)
  have BN := Box.mk (And.intro ln rn)
  clear lm rm ln rn
  go_enter Tryd.func3, Tryd.ntmps3
  go_wp2_with fail
  refine (unit_any m _ BM.out.1 BM.out.2).mono ?_
  rintro e w1 ⟨a, b, c, rfl, -, hb1⟩
  obtain ⟨u, hu⟩ : ∃ u : V3, u = (a, b, c) := ⟨_, rfl⟩
  obtain rfl : u.1 = a := by rw [hu]
  obtain rfl : u.2.1 = b := by rw [hu]
  obtain rfl : u.2.2 = c := by rw [hu]
  clear hu
  have HB1 := Box.mk hb1; clear hb1
  go_upto_region 2 with (fail)
  have HU : Box (Blk (w1.alloc (.cells (vC u) 23)) w1.heap.size 23 (vC u)) := ⟨Blk.new _ _ _⟩
  have HB2 := Box.mk (bthen HB1.out (bel1 w1 (.cells (vC u) 23)) (Nat.le_refl _)); clear HB1
  generalize w1.heap.size = p at *
  generalize w1.alloc (.cells (vC u) 23) = W1 at *
  go_wp2_with fail
  refine (unit_any n _ BN.out.1 BN.out.2).mono ?_
  rintro e w2 ⟨a, b, c, rfl, -, hb2⟩
  obtain ⟨v, hv⟩ : ∃ v : V3, v = (a, b, c) := ⟨_, rfl⟩
  obtain rfl : v.1 = a := by rw [hv]
  obtain rfl : v.2.1 = b := by rw [hv]
  obtain rfl : v.2.2 = c := by rw [hv]
  clear hv
  have HU2 := Box.mk (HU.out.below hb2)
  have HB3 := Box.mk (bthen HB2.out hb2 (Nat.le_refl _)); clear HU HB2 hb2
  go_upto_region 3 with (fail)
  have HM : Box (MV w (w2.alloc (.cells (vC v) 23)) p w2.heap.size u v) := ⟨bthen HB3.out (bel1 _ _) (Nat.le_refl _), HU2.out.alloc _, Blk.new _ _ _⟩
  clear HU2 HB3
  generalize w2.heap.size = q at *
  generalize w2.alloc (.cells (vC v) 23) = W2 at *
  go_wp2_with fail
  go_loopw [7, 8] (fun z y wr => ∃ k : Nat, k ≤ 3 ∧ y = .int .i64 (k : Nat) ∧ z = .bool (preV u k) ∧ MV w wr p q u v) (fun _ y _ => 3 - (intOf y).toNat)
  case atStart => exact ⟨0, by omega, rfl, rfl, HM.out⟩
  case round =>
    clear HM
    obtain ⟨k, hk, rfl, rfl, hm⟩ := hrel
    have HM := Box.mk hm
    clear hm
    by_cases hk3 : k < 3
    · obtain ⟨x, hx, hpre⟩ := HM.out.comp k hk3
      have hki : (k : Int) < 3 := by omega
      have HPRE := Box.mk hpre
      clear hpre
      obtain ⟨z, HZ⟩ : ∃ z, Box (preV u k = z) := ⟨_, ⟨rfl⟩⟩
      rw [HZ.out]
      cases z
      · have HN : Box (Value.bool false = .bool (preV u (k + 1))) := ⟨by rw [HPRE.out, HZ.out]; rfl⟩
        go_wp2_with fail
        go_roundw
        case rel => exact ⟨k + 1, by omega, by go_num, HN.out, HM.out⟩
        case measure => simp [intOf]; omega
      · by_cases h1 : -4 < x
        · by_cases h2 : x < 4
          · have HN : Box (Value.bool true = .bool (preV u (k + 1))) := ⟨by rw [HPRE.out, HZ.out]; simp [in7]; omega⟩
            go_wp2_with fail
            go_roundw
            case rel => exact ⟨k + 1, by omega, by go_num, HN.out, HM.out⟩
            case measure => simp [intOf]; omega
          · have HN : Box (Value.bool false = .bool (preV u (k + 1))) := ⟨by rw [HPRE.out, HZ.out]; simp [in7]; omega⟩
            go_wp2_with fail
            go_roundw
            case rel => exact ⟨k + 1, by omega, by go_num, HN.out, HM.out⟩
            case measure => simp [intOf]; omega
        · have HN : Box (Value.bool false = .bool (preV u (k + 1))) := ⟨by rw [HPRE.out, HZ.out]; simp [in7]; omega⟩
          go_wp2_with fail
          go_roundw
          case rel => exact ⟨k + 1, by omega, by go_num, HN.out, HM.out⟩
          case measure => simp [intOf]; omega
    · obtain rfl : k = 3 := by omega
      obtain ⟨z, HZ⟩ : ∃ z, Box (okV u = z) := ⟨_, ⟨rfl⟩⟩
      rw [show preV u 3 = z from HZ.out]
      clear hk hk3
      obtain ⟨u0', u1', u2'⟩ := HM.out.U.c3
      go_wp2_with fail
      refine (tx_any u _ (HW.out.1.below HM.out.below)).mono ?_
      rintro e w5 ⟨rfl, hb5⟩
      have HM5 := Box.mk (HM.out.next hb5)
      clear hb5 HM u0' u1' u2'
      go_wp2_with fail
      refine (parse_any (bs (txL u)) _ (by rw [bs_size]; have := tx_len u; omega) (HW.out.1.below HM5.out.below) (HW.out.2.below HM5.out.below)).mono ?_
      rintro e w6 ⟨rfl, hb6⟩
      rw [parM_bs, HZ.out]
      have HM6 := Box.mk (HM5.out.next hb6)
      clear hb6 HM5
      cases z
      · have HE : Box (txL u = []) := ⟨by unfold txL; rw [HZ.out]; rfl⟩
        simp only [Bool.false_eq_true, if_false, v0]
        obtain ⟨u0', u1', u2'⟩ := HM6.out.U.c3
        go_upto_region 10 with (fail)
        have HM7 := Box.mk (HM6.out.next (bel1 w6 (.cells #[.int .i64 0, .int .i64 0, .int .i64 0] 23)))
        clear HM6 u0' u1' u2'
        generalize w6.alloc (.cells #[.int .i64 0, .int .i64 0, .int .i64 0] 23) = W7 at *
        obtain ⟨u0', u1', u2'⟩ := HM7.out.U.c3
        go_wp2_with fail
        refine (tx_any u _ (HW.out.1.below HM7.out.below)).mono ?_
        rintro e w8 ⟨rfl, hb8⟩
        rw [HE.out]
        have HM8 := Box.mk (HM7.out.next hb8)
        clear hb8 HM7 u0' u1' u2'
        have hbe : ((bs []).toList == []) = true := by rw [bs_toL]; rfl
        go_wp2_with fail
        refine (lives_true _ (HW.out.1.below HM8.out.below)).mono ?_
        rintro e w9 ⟨rfl, hb9⟩
        have HM9 := Box.mk (HM8.out.next hb9)
        clear hb9 HM8
        go_wp2_with fail
        go_ret
        exact ⟨rfl, HM9.out.below⟩
      · simp only [if_true]
        go_upto_region 9 with (fail)
        have HB : Hid (MX w (w6.alloc (.cells (vC u) 23)) p q w6.heap.size u v) := ⟨bthen HM6.out.below (bel1 _ _) (Nat.le_refl _), HM6.out.U.alloc _, HM6.out.V.alloc _, Blk.new _ _ _⟩
        clear HM6
        generalize w6.heap.size = r at *
        generalize w6.alloc (.cells (vC u) 23) = W7 at *
        go_upto_region 11 with (fail)
        have hq1 := fun W : World => (eq_units u u W).trans (by rw [decide_eq_true rfl])
        obtain ⟨d, HD⟩ : ∃ d, Box (decide (u = v) = d) := ⟨_, ⟨rfl⟩⟩
        have hq2 := fun W : World => (eq_units u v W).trans (by rw [HD.out])
        obtain ⟨d2, HD2⟩ : ∃ d2, Box (((bs (txL u)).toList == (bs (txL v)).toList) = d2) := ⟨_, ⟨rfl⟩⟩
        have hq3 := HD2.out
        have HDD : Box ((d2 == d) = true) := ⟨by
          rw [← HD.out, ← HD2.out, bs_toL, bs_toL]
          by_cases h : u = v
          · subst h; simp
          · have : txL u ≠ txL v := fun e => h (tx_inj HZ.out e)
            simp [h, this]⟩
        have hq4 := HDD.out
        go_region_held3 (fun w' => (w'.cell? ⟨p, 0, none⟩ = some (.int .i64 u.1) ∧ w'.cell? ⟨p, 1, none⟩ = some (.int .i64 u.2.1) ∧ w'.cell? ⟨p, 2, none⟩ = some (.int .i64 u.2.2)) ∧ (w'.cell? ⟨q, 0, none⟩ = some (.int .i64 v.1) ∧ w'.cell? ⟨q, 1, none⟩ = some (.int .i64 v.2.1) ∧ w'.cell? ⟨q, 2, none⟩ = some (.int .i64 v.2.2)) ∧ w'.cell? ⟨r, 0, none⟩ = some (.int .i64 u.1) ∧ w'.cell? ⟨r, 1, none⟩ = some (.int .i64 u.2.1) ∧ w'.cell? ⟨r, 2, none⟩ = some (.int .i64 u.2.2))
          (first | with_reducible exact HB.out.cells | with_reducible exact HB.out.drew.cells | with_reducible exact (HB.out.next (below_drewN _ _)).cells | go_keep)
          (first
            | (go_at_call 7; (with_reducible refine (tx_any u _ ?_).mono ?_); exact (by first | exact HW.out.1.below HB.out.below | exact HW.out.1.below HB.out.drew.below); rintro e w5 ⟨rfl, hb5⟩; have HB2 : Hid (MX w w5 p q r u v) := (by first | exact HB.out.next hb5 | exact HB.out.drew.next hb5 | exact (HB.out.next (below_drewN _ _)).next hb5); clear HB; have HB := Lib.hid HB2.out; clear HB2; clear hb5)
            | (go_at_call 7; (with_reducible refine (tx_any v _ ?_).mono ?_); exact (by first | exact HW.out.1.below HB.out.below | exact HW.out.1.below HB.out.drew.below); rintro e w5 ⟨rfl, hb5⟩; have HB2 : Hid (MX w w5 p q r u v) := (by first | exact HB.out.next hb5 | exact HB.out.drew.next hb5 | exact (HB.out.next (below_drewN _ _)).next hb5); clear HB; have HB := Lib.hid HB2.out; clear HB2; clear hb5)
            | (go_at_call 8; (with_reducible refine (lives_true _ ?_).mono ?_); exact (by first | exact HW.out.1.below HB.out.below | exact HW.out.1.below HB.out.drew.below); rintro e w5 ⟨rfl, hb5⟩; have HB2 : Hid (MX w w5 p q r u v) := (by first | exact HB.out.next hb5 | exact HB.out.drew.next hb5 | exact (HB.out.next (below_drewN _ _)).next hb5); clear HB; have HB := Lib.hid HB2.out; clear HB2; clear hb5))
        all_goals
          go_wp2_with fail
          go_ret
          exact ⟨rfl, HB.out.below⟩
end Go.Proofs.YtpgfpcfmchmbcaaDoor
