/- half, Times of the reference. -/
import Derived.Test.YtlplligfnbkofaaDoorNc
set_option linter.unusedVariables false
set_option linter.unusedSimpArgs false
namespace Go.Proofs.YtlplligfnbkofaaDoor
open Go.RowKit DigM

def HalfRel (a : Nat) (w : World) (v : Value) (wr : World) : Prop :=
  ∃ i : Nat, i ≤ 8 ∧ v = .int .i64 (i : Nat) ∧ D8 wr w.heap.size (mx (a / 2) a i) ∧ D8 wr (w.heap.size + 1) (fun _ => 0) ∧ Below w.heap.size w wr
set_option maxHeartbeats 400000 in
theorem half_any (a : Nat) (w : World) (ha : a < 4294967296 ^ 8) : Calls Tryd.prog 86 #[nv a] w (RetN (a / 2) w) := by
  have H8 := Box.mk (dg_high a ha); clear ha
  go_enter Tryd.func86, Tryd.ntmps86
  go_wp2
  go_loopw [3] (fun v wr => HalfRel a w v wr) (fun v _ => (8 - intOf v).toNat)
  case atStart => exact ⟨0, by omega, rfl, (Blk.new _ _ _).alloc _, Blk.newAt _ _ (by simp), bel2 _ _ _⟩
  case round =>
    obtain ⟨i, hi, rfl, hA, hR, hBel⟩ := hrel
    have HBel := Lib.hid hBel; have HA := Box.mk hA; have HR := Box.mk hR
    clear hBel hA hR
    by_cases h8 : i = 8
    · subst h8
      have HA2 : Box (D8 wr w.heap.size (dg (a / 2))) := ⟨HA.out.congr (fun j hj => mx_all _ _ _ hj)⟩
      clear HA
      obtain ⟨c0, c1, c2, c3, c4, c5, c6, c7⟩ := HA2.out.cells
      obtain ⟨r0, r1, r2, r3, r4, r5, r6, r7⟩ := HR.out.cells
      have rf := Blk.frozen HR.out
      go_wp2
      have HP := HR.out.put (dg (a / 2))
      have HL := Box.mk (put8_below HBel.out (g := w.heap.size + 1) (by omega) (dg (a / 2)))
      show bodyPost _ _ _ _ _ (put8 wr (w.heap.size + 1) (dg (a / 2)))
      generalize put8 wr (w.heap.size + 1) (dg (a / 2)) = W2 at HP HL ⊢
      obtain ⟨p0, p1, p2, p3, p4, p5, p6, p7⟩ := HP.cells
      clear c0 c1 c2 c3 c4 c5 c6 c7 r0 r1 r2 r3 r4 r5 r6 r7 rf
      refine bodyPost_ret (v := nv (a / 2)) ?_ rfl ⟨rfl, HL.out⟩
      simp [results, Tryd.results86, go_sem, p0, p1, p2, p3, p4, p5, p6, p7]
    · have hi8 : i < 8 := by omega
      have hi2 : (i : Int) < 8 := by omega
      have c1 := HA.out.cell hi8
      rw [mx_at] at c1
      have fz := Blk.frozen HA.out
      have lx := dg_lt a i
      have HD := Box.mk (half_dg a i)
      clear h8
      by_cases h7 : i = 7
      · subst h7
        rw [H8.out] at HD
        generalize hda : dg a 7 = x at *
        clear hda
        go_wp2
        go_roundw
        case rel =>
          rw [show (x : Int) / 2 = ((dg (a / 2) 7 : Nat) : Int) by have := HD.out; omega]
          exact ⟨8, by omega, rfl, (HA.out.set hi8 _).congr (fun j _ => mx_set _ _ _ _), HR.out.far (by simp) _, HBel.out.setCell (Nat.le_refl _) _⟩
        case measure => simp [intOf]
      · have hi3 : (i : Int) < 7 := by omega
        have c2 := HA.out.cell (j := i + 1) (by omega)
        rw [mx_past _ _ _ _ (by omega)] at c2
        have ly := dg_lt a (i + 1)
        generalize hda : dg a i = x at *
        generalize hdb : dg a (i + 1) = y at *
        clear hda hdb h7
        go_wp2
        go_roundw
        case rel =>
          rw [show (x : Int) / 2 + 2147483648 * ((y : Int) % 2) = ((dg (a / 2) i : Nat) : Int) by have := HD.out; omega]
          exact ⟨i + 1, by omega, rfl, (HA.out.set hi8 _).congr (fun j _ => mx_set _ _ _ _), HR.out.far (by simp) _, HBel.out.setCell (Nat.le_refl _) _⟩
        case measure => simp [intOf]; omega

theorem dg_add_pow (x c i j : Nat) (h : j < i) : dg (x + 4294967296 ^ i * c) j = dg x j := by
  unfold dg
  obtain ⟨m, rfl⟩ : ∃ m, i = j + 1 + m := ⟨i - (j + 1), by omega⟩
  rw [show x + 4294967296 ^ (j + 1 + m) * c = x + 4294967296 ^ j * (4294967296 * (4294967296 ^ m * c)) by rw [Nat.pow_add, Nat.pow_succ]; grind, Nat.add_mul_div_left _ _ (pow_pos' j), Nat.add_mul_mod_self_left]
theorem tx_low (a b i j : Nat) (h : j < i) : dg (tx a b (i + 1)) j = dg (tx a b i) j := by
  rw [← tx_succ, Nat.mul_assoc]; exact dg_add_pow _ _ _ _ h
theorem mx_row (a b i j : Nat) : dg (tx a b i) j = mx (tx a b (i + 1)) (tx a b i) (i + 0) j := by
  unfold mx
  split
  · rename_i h; exact (tx_low _ _ _ _ (by omega)).symm
  · rfl
theorem row_dg (a b i k : Nat) : (ty (tx a b i) a b i k + dg (tx a b i) (i + k) + dg a i * dg b k) % 4294967296 = dg (tx a b (i + 1)) (i + k) := by
  rw [times_dg, tx_succ]
def OutRel (a b : Nat) (w : World) (v : Value) (wr : World) : Prop :=
  ∃ i : Nat, i ≤ 8 ∧ v = .int .i64 (i : Nat) ∧ D8 wr w.heap.size (dg a) ∧ D8 wr (w.heap.size + 1) (dg b) ∧ D8 wr (w.heap.size + 1 + 1) (fun _ => 0) ∧ D8 wr (w.heap.size + 1 + 1 + 1) (dg (tx a b i)) ∧ Below w.heap.size w wr
def InRel (a b i : Nat) (w : World) (u v : Value) (wr : World) : Prop :=
  ∃ k : Nat, i + k ≤ 8 ∧ u = .int .u64 (ty (tx a b i) a b i k : Nat) ∧ v = .int .i64 (k : Nat) ∧ D8 wr w.heap.size (dg a) ∧ D8 wr (w.heap.size + 1) (dg b) ∧ D8 wr (w.heap.size + 1 + 1) (fun _ => 0) ∧ D8 wr (w.heap.size + 1 + 1 + 1) (mx (tx a b (i + 1)) (tx a b i) (i + k)) ∧ Below w.heap.size w wr
set_option maxHeartbeats 1000000 in
theorem times_any (a b : Nat) (w : World) (ha : a < 4294967296 ^ 8) : Calls Tryd.prog 50 #[nv a, nv b] w (RetN (a * b) w) := by
  have HE := Box.mk (tx_end a b ha); clear ha
  go_enter Tryd.func50, Tryd.ntmps50
  go_wp2
  go_loopw [6] (fun v wr => OutRel a b w v wr) (fun v _ => (8 - intOf v).toNat)
  case atStart => exact ⟨0, by omega, rfl, (((Blk.new _ _ _).alloc _).alloc _).alloc _, ((Blk.newAt _ _ (by simp)).alloc _).alloc _, (Blk.newAt _ _ (by simp)).alloc _, D8.congr (f := fun _ => 0) (Blk.newAt _ _ (by simp)) (fun j _ => by rw [tx_zero, dg_zero]), (bel3 _ _ _ _).alloc (by simp; omega) _⟩
  case round =>
    obtain ⟨i, hi, rfl, hA, hB, hR, hO, hBel⟩ := hrel
    have HBel := Lib.hid hBel; have HA := Box.mk hA; have HB := Box.mk hB; have HR := Box.mk hR; have HO := Box.mk hO
    clear hBel hA hB hR hO
    by_cases h8 : i = 8
    · subst h8
      rw [HE.out] at HO
      obtain ⟨c0, c1, c2, c3, c4, c5, c6, c7⟩ := HO.out.cells
      obtain ⟨r0, r1, r2, r3, r4, r5, r6, r7⟩ := HR.out.cells
      have rf := Blk.frozen HR.out
      go_wp2
      have HP := HR.out.put (dg (a * b))
      have HL := Box.mk (put8_below HBel.out (g := w.heap.size + 1 + 1) (by omega) (dg (a * b)))
      show bodyPost _ _ _ _ _ (put8 wr (w.heap.size + 1 + 1) (dg (a * b)))
      generalize put8 wr (w.heap.size + 1 + 1) (dg (a * b)) = W2 at HP HL ⊢
      obtain ⟨p0, p1, p2, p3, p4, p5, p6, p7⟩ := HP.cells
      clear c0 c1 c2 c3 c4 c5 c6 c7 r0 r1 r2 r3 r4 r5 r6 r7 rf
      refine bodyPost_ret (v := nv (a * b)) ?_ rfl ⟨rfl, HL.out⟩
      simp [results, Tryd.results50, go_sem, p0, p1, p2, p3, p4, p5, p6, p7]
    · have hi8 : i < 8 := by omega
      have hi2 : (i : Int) < 8 := by omega
      clear h8
      go_wp2
      go_loopw [7, 8] (fun u v wr => InRel a b i w u v wr) (fun _ v _ => (8 - intOf v).toNat)
      case atStart => exact ⟨0, by omega, by rw [ty_zero]; rfl, rfl, HA.out, HB.out, HR.out, HO.out.congr (fun j _ => mx_row _ _ _ _), HBel.out⟩
      case round =>
        clear HBel HA HB HR HO
        obtain ⟨k, hk, rfl, rfl, hA, hB, hR, hO, hBel⟩ := hrel
        have HBel := Lib.hid hBel; have HA := Box.mk hA; have HB := Box.mk hB; have HR := Box.mk hR; have HO := Box.mk hO
        clear hBel hA hB hR hO
        by_cases h8 : i + k = 8
        · rw [h8] at HO
          have HO2 := Box.mk (HO.out.congr (fun j hj => mx_all _ _ j hj))
          clear HO
          have hs : ¬ ((i : Int) + (k : Int) < 8) := by omega
          go_wp2
          go_roundw
          case rel => exact ⟨i + 1, by omega, rfl, HA.out, HB.out, HR.out, HO2.out, HBel.out⟩
          case measure => simp [intOf]; omega
        · have hk8 : i + k < 8 := by omega
          have hs : ((i : Int) + (k : Int) < 8) := by omega
          have ht : ((i : Int) + (k : Int)).toNat = i + k := by omega
          have c1 := HA.out.cell hi8
          have c2 := HB.out.cell (j := k) (by omega)
          have c3 := HO.out.cell hk8
          rw [mx_at] at c3
          have fz := Blk.frozen HO.out
          have l1 := dg_lt a i
          have l2 := dg_lt b k
          have l3 := dg_lt (tx a b i) (i + k)
          have l4 := ty_lt (tx a b i) a b i k
          have l5 := ty_sum_lt (tx a b i) a b i k
          have HD := Box.mk (row_dg a b i k)
          have HC := Box.mk (times_ty (tx a b i) a b i k)
          generalize hda : dg a i = x at *
          generalize hdb : dg b k = y at *
          generalize hdo : dg (tx a b i) (i + k) = o at *
          generalize hcy : ty (tx a b i) a b i k = c at *
          clear hda hdb hdo hcy h8
          have m0 : 0 ≤ (x : Int) * (y : Int) := Int.mul_nonneg (by omega) (by omega)
          have m1 : (c : Int) + o + x * y < 18446744073709551616 := by
            have : ((c + o + x * y : Nat) : Int) < 18446744073709551616 := by omega
            simpa using this
          have M := Box.mk l5
          clear l5
          go_wp2
          go_region
          all_goals
            go_wp2
            go_roundw
            case rel =>
              rw [show ((c : Int) + o + x * y) % 4294967296 = ((dg (tx a b (i + 1)) (i + k) : Nat) : Int) by rw [← HD.out]; simp]
              exact ⟨k + 1, by omega, int_eq (by rw [← HC.out]; simp), rfl, HA.out.far (by simp <;> omega) _, HB.out.far (by simp <;> omega) _, HR.out.far (by simp <;> omega) _, (HO.out.set hk8 _).congr (fun j _ => mx_set _ _ _ _), bdrew (HBel.out.setCell (by simp; omega) _) 1⟩
            case measure => simp [intOf]; omega
end Go.Proofs.YtlplligfnbkofaaDoor
