/- Plus, Minus, half of the reference. -/
import Derived.Test.YtlplligfnbkofaaDoorNa
set_option linter.unusedVariables false
set_option linter.unusedSimpArgs false
namespace Go.Proofs.YtlplligfnbkofaaDoor
open Go.RowKit DigM

/-- the first i digits of n, the others of m -/
def mx (n m i j : Nat) : Nat := if j < i then dg n j else dg m j
theorem mx_at (n m i : Nat) : mx n m i i = dg m i := by simp [mx]
theorem mx_past (n m i j : Nat) (h : i ≤ j) : mx n m i j = dg m j := by simp [mx]; omega
theorem mx_zero (n m j : Nat) : mx n m 0 j = dg m j := by simp [mx]
theorem mx_all (n m j : Nat) (h : j < 8) : mx n m 8 j = dg n j := by simp [mx, h]
theorem mx_set (n m i j : Nat) : (if j = i then dg n i else mx n m i j) = mx n m (i + 1) j := by
  unfold mx
  by_cases h : j = i
  · subst h; simp
  · by_cases h2 : j < i
    · simp [h, h2]; omega
    · have : ¬ j < i + 1 := by omega
      simp [h, h2, this]

/-- eight cells laid into a block -/
abbrev put8 (W : World) (g : Nat) (f : Nat → Nat) : World := (((((((W.setCell ⟨g, 0, none⟩ (.int .u64 (f 0 : Nat))).setCell ⟨g, 1, none⟩ (.int .u64 (f 1 : Nat))).setCell ⟨g, 2, none⟩ (.int .u64 (f 2 : Nat))).setCell ⟨g, 3, none⟩ (.int .u64 (f 3 : Nat))).setCell ⟨g, 4, none⟩ (.int .u64 (f 4 : Nat))).setCell ⟨g, 5, none⟩ (.int .u64 (f 5 : Nat))).setCell ⟨g, 6, none⟩ (.int .u64 (f 6 : Nat))).setCell ⟨g, 7, none⟩ (.int .u64 (f 7 : Nat))
theorem D8.put {W : World} {g : Nat} {f' : Nat → Nat} (h : D8 W g f') (f : Nat → Nat) : D8 (put8 W g f) g f := by
  have := (((((((D8.set h (i := 0) (by omega) (f 0)).set (i := 1) (by omega) (f 1)).set (i := 2) (by omega) (f 2)).set (i := 3) (by omega) (f 3)).set (i := 4) (by omega) (f 4)).set (i := 5) (by omega) (f 5)).set (i := 6) (by omega) (f 6)).set (i := 7) (by omega) (f 7)
  refine this.congr (fun j hj => ?_)
  rcases lt8 hj with rfl | rfl | rfl | rfl | rfl | rfl | rfl | rfl <;> simp
theorem put8_below {B : Nat} {w W : World} {g : Nat} (h : Below B w W) (hg : B ≤ g) (f : Nat → Nat) : Below B w (put8 W g f) :=
  (((((((h.setCell (p := ⟨g, 0, none⟩) hg _).setCell (p := ⟨g, 1, none⟩) hg _).setCell (p := ⟨g, 2, none⟩) hg _).setCell (p := ⟨g, 3, none⟩) hg _).setCell (p := ⟨g, 4, none⟩) hg _).setCell (p := ⟨g, 5, none⟩) hg _).setCell (p := ⟨g, 6, none⟩) hg _).setCell (p := ⟨g, 7, none⟩) hg _
theorem D8.putFar {W : World} {g g' : Nat} {f' : Nat → Nat} (h : D8 W g f') (hg : g ≠ g') (f : Nat → Nat) : D8 (put8 W g' f) g f' :=
  (((((((h.far (p := ⟨g', 0, none⟩) hg _).far (p := ⟨g', 1, none⟩) hg _).far (p := ⟨g', 2, none⟩) hg _).far (p := ⟨g', 3, none⟩) hg _).far (p := ⟨g', 4, none⟩) hg _).far (p := ⟨g', 5, none⟩) hg _).far (p := ⟨g', 6, none⟩) hg _).far (p := ⟨g', 7, none⟩) hg _
theorem int_eq {k : IntKind} {a b : Int} (h : a = b) : Value.int k a = .int k b := by rw [h]

def PlusRel (a b : Nat) (w : World) (u v : Value) (wr : World) : Prop :=
  ∃ i : Nat, i ≤ 8 ∧ u = .int .u64 (cy a b i : Nat) ∧ v = .int .i64 (i : Nat) ∧ D8 wr w.heap.size (mx (a + b) a i) ∧ D8 wr (w.heap.size + 1) (dg b) ∧ D8 wr (w.heap.size + 1 + 1) (fun _ => 0) ∧ Below w.heap.size w wr
set_option maxHeartbeats 400000 in
theorem plus_any (a b : Nat) (w : World) : Calls Tryd.prog 65 #[nv a, nv b] w (RetN (a + b) w) := by
  go_enter Tryd.func65, Tryd.ntmps65
  go_wp2
  go_loopw [5, 6] (fun u v wr => PlusRel a b w u v wr) (fun _ v _ => (8 - intOf v).toNat)
  case atStart => exact ⟨0, by omega, by rw [cy_zero]; rfl, rfl, ((Blk.new _ _ _).alloc _).alloc _, (Blk.newAt _ _ (by simp)).alloc _, Blk.newAt _ _ (by simp), bel3 _ _ _ _⟩
  case round =>
    obtain ⟨i, hi, rfl, rfl, hA, hB, hR, hBel⟩ := hrel
    have HBel := Lib.hid hBel; have HA := Box.mk hA; have HB := Box.mk hB; have HR := Box.mk hR
    clear hBel hA hB hR
    by_cases h8 : i = 8
    · subst h8
      have HA2 : Box (D8 wr w.heap.size (dg (a + b))) := ⟨HA.out.congr (fun j hj => mx_all _ _ _ hj)⟩
      clear HA
      obtain ⟨c0, c1, c2, c3, c4, c5, c6, c7⟩ := HA2.out.cells
      obtain ⟨r0, r1, r2, r3, r4, r5, r6, r7⟩ := HR.out.cells
      have rf := Blk.frozen HR.out
      go_wp2
      have HP := HR.out.put (dg (a + b))
      have HL := Box.mk (put8_below HBel.out (g := w.heap.size + 1 + 1) (by omega) (dg (a + b)))
      show bodyPost _ _ _ _ _ (put8 wr (w.heap.size + 1 + 1) (dg (a + b)))
      generalize put8 wr (w.heap.size + 1 + 1) (dg (a + b)) = W2 at HP HL ⊢
      obtain ⟨p0, p1, p2, p3, p4, p5, p6, p7⟩ := HP.cells
      clear c0 c1 c2 c3 c4 c5 c6 c7 r0 r1 r2 r3 r4 r5 r6 r7 rf
      refine bodyPost_ret (v := nv (a + b)) ?_ rfl ⟨rfl, HL.out⟩
      simp [results, Tryd.results65, go_sem, p0, p1, p2, p3, p4, p5, p6, p7]
    · have hi8 : i < 8 := by omega
      have hi2 : (i : Int) < 8 := by omega
      have c1 := HA.out.cell hi8
      have c2 := HB.out.cell hi8
      rw [mx_at] at c1
      have fz := Blk.frozen HA.out
      have lx := dg_lt a i
      have ly := dg_lt b i
      have lc := cy_le a b i
      have HD := Box.mk (plus_dg a b i)
      have HC := Box.mk (plus_cy a b i)
      generalize hda : dg a i = x at *
      generalize hdb : dg b i = y at *
      generalize hcy : cy a b i = c at *
      clear hda hdb hcy h8
      go_wp2
      go_region
      all_goals
        go_wp2
        go_roundw
        case rel =>
          rw [show ((c : Int) + x + y) % 4294967296 = ((dg (a + b) i : Nat) : Int) by have := HD.out; omega]
          exact ⟨i + 1, by omega, int_eq (by have := HC.out; omega), rfl, (HA.out.set hi8 _).congr (fun j _ => mx_set _ _ _ _), HB.out.far (by simp) _, HR.out.far (by simp; omega) _, bdrew (HBel.out.setCell (Nat.le_refl _) _) 1⟩
        case measure => simp [intOf]; omega

def MinusRel (a b : Nat) (w : World) (u v : Value) (wr : World) : Prop :=
  ∃ i : Nat, i ≤ 8 ∧ u = .int .u64 (bw a b i : Nat) ∧ v = .int .i64 (i : Nat) ∧ D8 wr w.heap.size (mx (a - b) a i) ∧ D8 wr (w.heap.size + 1) (dg b) ∧ D8 wr (w.heap.size + 1 + 1) (fun _ => 0) ∧ Below w.heap.size w wr
set_option maxHeartbeats 400000 in
theorem minus_any (a b : Nat) (w : World) (hba : b ≤ a) : Calls Tryd.prog 67 #[nv a, nv b] w (RetN (a - b) w) := by
  have HBA := Box.mk hba; clear hba
  go_enter Tryd.func67, Tryd.ntmps67
  go_wp2
  go_loopw [5, 6] (fun u v wr => MinusRel a b w u v wr) (fun _ v _ => (8 - intOf v).toNat)
  case atStart => exact ⟨0, by omega, by rw [bw_zero]; rfl, rfl, ((Blk.new _ _ _).alloc _).alloc _, (Blk.newAt _ _ (by simp)).alloc _, Blk.newAt _ _ (by simp), bel3 _ _ _ _⟩
  case round =>
    obtain ⟨i, hi, rfl, rfl, hA, hB, hR, hBel⟩ := hrel
    have HBel := Lib.hid hBel; have HA := Box.mk hA; have HB := Box.mk hB; have HR := Box.mk hR
    clear hBel hA hB hR
    by_cases h8 : i = 8
    · subst h8
      have HA2 : Box (D8 wr w.heap.size (dg (a - b))) := ⟨HA.out.congr (fun j hj => mx_all _ _ _ hj)⟩
      clear HA
      obtain ⟨c0, c1, c2, c3, c4, c5, c6, c7⟩ := HA2.out.cells
      obtain ⟨r0, r1, r2, r3, r4, r5, r6, r7⟩ := HR.out.cells
      have rf := Blk.frozen HR.out
      go_wp2
      have HP := HR.out.put (dg (a - b))
      have HL := Box.mk (put8_below HBel.out (g := w.heap.size + 1 + 1) (by omega) (dg (a - b)))
      show bodyPost _ _ _ _ _ (put8 wr (w.heap.size + 1 + 1) (dg (a - b)))
      generalize put8 wr (w.heap.size + 1 + 1) (dg (a - b)) = W2 at HP HL ⊢
      obtain ⟨p0, p1, p2, p3, p4, p5, p6, p7⟩ := HP.cells
      clear c0 c1 c2 c3 c4 c5 c6 c7 r0 r1 r2 r3 r4 r5 r6 r7 rf
      refine bodyPost_ret (v := nv (a - b)) ?_ rfl ⟨rfl, HL.out⟩
      simp [results, Tryd.results67, go_sem, p0, p1, p2, p3, p4, p5, p6, p7]
    · have hi8 : i < 8 := by omega
      have hi2 : (i : Int) < 8 := by omega
      have c1 := HA.out.cell hi8
      have c2 := HB.out.cell hi8
      rw [mx_at] at c1
      have fz := Blk.frozen HA.out
      have lx := dg_lt a i
      have ly := dg_lt b i
      have lc := bw_le a b i
      have HD := Box.mk (minus_dg a b i HBA.out)
      have HC := Box.mk (minus_bw a b i)
      generalize hda : dg a i = x at *
      generalize hdb : dg b i = y at *
      generalize hcy : bw a b i = c at *
      clear hda hdb hcy h8
      have hq : ((x : Int) + 4294967296 - y - c) / 4294967296 ≤ 1 := by omega
      have hq0 : 0 ≤ ((x : Int) + 4294967296 - y - c) / 4294967296 := by omega
      go_wp2
      go_region
      all_goals
        go_wp2
        go_roundw
        case rel =>
          rw [show ((x : Int) + 4294967296 - y - c) % 4294967296 = ((dg (a - b) i : Nat) : Int) by have := HD.out; omega]
          exact ⟨i + 1, by omega, int_eq (by have := HC.out; omega), rfl, (HA.out.set hi8 _).congr (fun j _ => mx_set _ _ _ _), HB.out.far (by simp) _, HR.out.far (by simp; omega) _, bdrew (HBel.out.setCell (Nat.le_refl _) _) 1⟩
        case measure => simp [intOf]; omega

end Go.Proofs.YtlplligfnbkofaaDoor
