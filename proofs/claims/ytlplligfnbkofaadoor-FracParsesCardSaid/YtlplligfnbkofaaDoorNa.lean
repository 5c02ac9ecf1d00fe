/- Blocks of eight digits; From, Less of the reference. -/
import Derived.Test.YtlplligfnbkofaaDoorNm
import Derived.Test.YtlplligfnbkofaaDoorFa
set_option linter.unusedVariables false
set_option linter.unusedSimpArgs false
namespace Go.Proofs.YtlplligfnbkofaaDoor
open Go.RowKit DigM

/-- eight cells -/
abbrev d8 (f : Nat → Nat) : Array Value := #[.int .u64 (f 0 : Nat), .int .u64 (f 1 : Nat), .int .u64 (f 2 : Nat), .int .u64 (f 3 : Nat), .int .u64 (f 4 : Nat), .int .u64 (f 5 : Nat), .int .u64 (f 6 : Nat), .int .u64 (f 7 : Nat)]
/-- the number n as a value -/
abbrev nv (n : Nat) : Value := .agg (d8 (dg n))
def D8 (W : World) (g : Nat) (f : Nat → Nat) : Prop := Blk W g 67 (d8 f)
theorem d8_congr {f g : Nat → Nat} (h : ∀ j, j < 8 → f j = g j) : d8 f = d8 g := by
  simp only [d8, h 0 (by omega), h 1 (by omega), h 2 (by omega), h 3 (by omega), h 4 (by omega), h 5 (by omega), h 6 (by omega), h 7 (by omega)]
theorem lt8 {j : Nat} (h : j < 8) : j = 0 ∨ j = 1 ∨ j = 2 ∨ j = 3 ∨ j = 4 ∨ j = 5 ∨ j = 6 ∨ j = 7 := by omega
theorem D8.cell {W : World} {g : Nat} {f : Nat → Nat} (h : D8 W g f) {j : Nat} (hj : j < 8) : W.cell? ⟨g, j, none⟩ = some (.int .u64 (f j : Nat)) := by
  unfold D8 Blk at h
  rcases lt8 hj with rfl | rfl | rfl | rfl | rfl | rfl | rfl | rfl <;> simp [World.cell?, h]
theorem D8.congr {W : World} {g : Nat} {f f' : Nat → Nat} (h : D8 W g f) (hf : ∀ j, j < 8 → f j = f' j) : D8 W g f' := by
  unfold D8 at *; rw [← d8_congr hf]; exact h
theorem D8.set {W : World} {g : Nat} {f : Nat → Nat} (h : D8 W g f) {i : Nat} (hi : i < 8) (v : Nat) : D8 (W.setCell ⟨g, i, none⟩ (.int .u64 (v : Nat))) g (fun j => if j = i then v else f j) := by
  have := Blk.set h i (.int .u64 (v : Nat))
  unfold D8
  rcases lt8 hi with rfl | rfl | rfl | rfl | rfl | rfl | rfl | rfl <;> simpa [d8] using this
theorem D8.below {W W' : World} {g : Nat} {f : Nat → Nat} (h : D8 W g f) (hb : Below W.heap.size W W') : D8 W' g f := Blk.below h hb
theorem D8.far {W : World} {g : Nat} {f : Nat → Nat} (h : D8 W g f) {p : Addr} (hp : g ≠ p.block) (u : Value) : D8 (W.setCell p u) g f := Blk.far h hp u
theorem D8.cells {W : World} {g : Nat} {f : Nat → Nat} (h : D8 W g f) : W.cell? ⟨g, 0, none⟩ = some (.int .u64 (f 0 : Nat)) ∧ W.cell? ⟨g, 1, none⟩ = some (.int .u64 (f 1 : Nat)) ∧ W.cell? ⟨g, 2, none⟩ = some (.int .u64 (f 2 : Nat)) ∧ W.cell? ⟨g, 3, none⟩ = some (.int .u64 (f 3 : Nat)) ∧ W.cell? ⟨g, 4, none⟩ = some (.int .u64 (f 4 : Nat)) ∧ W.cell? ⟨g, 5, none⟩ = some (.int .u64 (f 5 : Nat)) ∧ W.cell? ⟨g, 6, none⟩ = some (.int .u64 (f 6 : Nat)) ∧ W.cell? ⟨g, 7, none⟩ = some (.int .u64 (f 7 : Nat)) :=
  Blk.c8 h
/-- the call gives the number n -/
def RetN (n : Nat) (w : World) (e : Ending) (w' : World) : Prop := e = .returned (nv n) ∧ Below w.heap.size w w'

theorem from_cells (n : Nat) (h : n < 18446744073709551616) : nv n = .agg #[.int .u64 ((n % 4294967296 : Nat) : Int), .int .u64 ((n / 4294967296 : Nat) : Int), .int .u64 0, .int .u64 0, .int .u64 0, .int .u64 0, .int .u64 0, .int .u64 0] := by
  simp [nv, d8, dg_from n _ h]

set_option maxHeartbeats 400000 in
theorem from_any (n : Nat) (w : World) (h : n < 18446744073709551616) : Calls Tryd.prog 51 #[.int .u64 (n : Nat)] w (RetN n w) := by
  have E := Box.mk (from_cells n h)
  have n1 : n % 4294967296 < 4294967296 := Nat.mod_lt _ (by omega)
  have n2 : n / 4294967296 < 4294967296 := by omega
  go_enter Tryd.func51, Tryd.ntmps51
  go_wp2
  refine bodyPost_ret (v := nv n) ?_ rfl ⟨rfl, bel2 _ _ _⟩
  rw [E.out]
  simp [results, Tryd.results51, go_sem]

def LessRel (a b : Nat) (w : World) (v : Value) (wr : World) : Prop :=
  ∃ k : Nat, k ≤ 8 ∧ v = .int .i64 ((k : Int) - 1) ∧ Same a b k ∧ D8 wr w.heap.size (dg a) ∧ D8 wr (w.heap.size + 1) (dg b) ∧ Below w.heap.size w wr
/-- what Less answers -/
def lessN (a b : Nat) : Int := if a < b then -1 else if b < a then 1 else 0
set_option maxHeartbeats 400000 in
theorem less_any (a b : Nat) (w : World) (ha : a < 4294967296 ^ 8) (hb : b < 4294967296 ^ 8) : Calls Tryd.prog 66 #[nv a, nv b] w fun e w' => e = .returned (.int .i64 (lessN a b)) ∧ Below w.heap.size w w' := by
  have HT := Box.mk (Same.top ha hb)
  clear ha hb
  go_enter Tryd.func66, Tryd.ntmps66
  go_wp2
  go_loopw [5] (fun v wr => LessRel a b w v wr) (fun v _ => (intOf v + 1).toNat)
  case atStart => exact ⟨8, by omega, rfl, HT.out, (Blk.new _ _ _).alloc _, Blk.newAt _ _ (by simp), bel2 _ _ _⟩
  case round =>
    obtain ⟨k, hk, rfl, hS, hA, hB, hBel⟩ := hrel
    have HBel := Lib.hid hBel; have HS := Box.mk hS; have HA := Box.mk hA; have HB := Box.mk hB
    clear hBel hS hA hB
    cases k with
    | zero =>
      have HE : Box (lessN a b = 0) := ⟨by have := HS.out.eq; subst this; simp [lessN]⟩
      go_wp2
      go_ret
      exact ⟨ret_int HE.out.symm, HBel.out⟩
    | succ j =>
      have e1 : ((j + 1 : Nat) : Int) - 1 = (j : Int) := by omega
      rw [e1]
      have hj : j < 8 := by omega
      have hj2 : (j : Int) < 8 := by omega
      have c1 := HA.out.cell hj
      have c2 := HB.out.cell hj
      generalize hda : dg a j = x at *
      generalize hdb : dg b j = y at *
      have HX := Box.mk hda; have HY := Box.mk hdb; clear hda hdb e1
      rcases Nat.lt_trichotomy x y with h | h | h
      · have HE : Box (lessN a b = -1) := ⟨by have := HS.out.lt (by rw [HX.out, HY.out]; exact h); simp [lessN, this]⟩
        go_wp2
        go_region
        all_goals
          go_wp2
          go_ret
          exact ⟨ret_int HE.out.symm, bdrew HBel.out 1⟩
      · subst h
        go_wp2
        go_region
        all_goals
          go_wp2
          go_region
          all_goals
            go_wp2
            go_roundw
            case rel => exact ⟨j, by omega, rfl, HS.out.down (by rw [HX.out, HY.out]), HA.out, HB.out, bdrew HBel.out 2⟩
            case measure => simp [intOf]
      · have HE : Box (lessN a b = 1) := ⟨by have := HS.out.symm.lt (by rw [HX.out, HY.out]; exact h); simp [lessN, this]; omega⟩
        go_wp2
        go_region
        all_goals
          go_wp2
          go_region
          all_goals
            go_wp2
            go_ret
            exact ⟨ret_int HE.out.symm, bdrew HBel.out 2⟩
end Go.Proofs.YtlplligfnbkofaaDoor
