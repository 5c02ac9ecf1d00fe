/- gcd of the reference. -/
import Derived.Test.YtlplligfnbkofaaDoorNd
import Derived.ChangeKeysEq
set_option linter.unusedVariables false
set_option linter.unusedSimpArgs false
namespace Go.Proofs.YtlplligfnbkofaaDoor
open Go.RowKit DigM
theorem cells56 : Tryd.prog.cellsOf 56 = 1 := by kernel_rfl
theorem run_eq8 (f g : Nat → Nat) (W : World) : (Op.equalIn 10000 67 (.agg (d8 f)) (.agg (d8 g))).run Tryd.prog W = .ok (f 0 == g 0 && (f 1 == g 1 && (f 2 == g 2 && (f 3 == g 3 && (f 4 == g 4 && (f 5 == g 5 && (f 6 == g 6 && f 7 == g 7))))))) W := by
  obtain ⟨i, hi⟩ : ∃ i, Tryd.prog.info? 56 = some i := Option.isSome_iff_exists.1 (by kernel_rfl)
  rw [show (10000 : Nat) = 9999 + 1 from rfl, run_equalIn_array W 9999 _ _ Tryd.underlying67 hi, cells56, show List.range 8 = [0, 1, 2, 3, 4, 5, 6, 7] from rfl]
  have hx : ∀ x y : Nat, ((x : Int) == (y : Int)) = (x == y) := by intro x y; rw [Bool.eq_iff_iff]; simp; omega
  have h1 : ∀ x y : Nat, ∀ w, (Op.equalIn 9999 56 (.int .u64 (x : Nat)) (.int .u64 (y : Nat))).run Tryd.prog w = .ok (x == y) w := fun x y w => by rw [← hx]; exact run_equalIn_int w 9998 _ _ _ _ _ Tryd.underlying56
  simp [Op.eqItems, go_sem, d8, h1]
  by_cases e0 : f 0 = g 0
  · by_cases e1 : f 1 = g 1
    · by_cases e2 : f 2 = g 2
      · by_cases e3 : f 3 = g 3
        · by_cases e4 : f 4 = g 4
          · by_cases e5 : f 5 = g 5
            · by_cases e6 : f 6 = g 6
              · by_cases e7 : f 7 = g 7
                · simp [e0, e1, e2, e3, e4, e5, e6, e7]
                · simp [e0, e1, e2, e3, e4, e5, e6, e7]
              · simp [e0, e1, e2, e3, e4, e5, e6]
            · simp [e0, e1, e2, e3, e4, e5]
          · simp [e0, e1, e2, e3, e4]
        · simp [e0, e1, e2, e3]
      · simp [e0, e1, e2]
    · simp [e0, e1]
  · simp [e0]
theorem run_eqN {a b : Nat} (ha : a < 4294967296 ^ 8) (hb : b < 4294967296 ^ 8) (W : World) : (Op.equalIn 10000 67 (nv a) (nv b)).run Tryd.prog W = .ok (decide (a = b)) W := by
  rw [run_eq8]
  congr 1
  rw [Bool.eq_iff_iff]
  simp only [Bool.and_eq_true, beq_iff_eq, decide_eq_true_eq]
  constructor
  · rintro ⟨h0, h1, h2, h3, h4, h5, h6, h7⟩
    refine eq_of_dg ha hb (fun i hi => ?_)
    rcases lt8 hi with rfl | rfl | rfl | rfl | rfl | rfl | rfl | rfl <;> assumption
  · rintro rfl; simp
theorem zero8 : 0 < 4294967296 ^ 8 := by decide
theorem run_eqN_no {a b : Nat} (ha : a < 4294967296 ^ 8) (hb : b < 4294967296 ^ 8) (h : a ≠ b) (W : World) : (Op.equalIn 10000 67 (nv a) (nv b)).run Tryd.prog W = .ok false W := by
  rw [run_eqN ha hb]; simp [h]
theorem run_eqN_yes {a : Nat} (W : World) : (Op.equalIn 10000 67 (nv a) (nv a)).run Tryd.prog W = .ok true W := by
  rw [run_eq8]; simp

open Classical in
/-- the number that a block holds -/
noncomputable def rdN (W : World) (g : Nat) : Nat := if h : ∃ n, n < 4294967296 ^ 8 ∧ D8 W g (dg n) then Classical.choose h else 0
theorem rdN_eq {W : World} {g n : Nat} (h : D8 W g (dg n)) (hn : n < 4294967296 ^ 8) : rdN W g = n := by
  have hx : ∃ n, n < 4294967296 ^ 8 ∧ D8 W g (dg n) := ⟨n, hn, h⟩
  unfold rdN
  rw [dif_pos hx]
  obtain ⟨h1, h2⟩ := Classical.choose_spec hx
  refine eq_of_dg h1 hn (fun i hi => ?_)
  have e1 := h2.cell hi
  have e2 := h.cell hi
  rw [e1] at e2
  simp at e2
  omega
/-- the memory of gcd -/
structure Gm (w W : World) (Z a b : Nat) : Prop where
  below : Below w.heap.size w W
  A : D8 W w.heap.size (dg a)
  B : D8 W (w.heap.size + 1) (dg b)
  R : D8 W (w.heap.size + 1 + 1) (fun _ => 0)
  Zr : D8 W Z (dg 0)
  hz : w.heap.size + 1 + 1 < Z
  ha : a < 4294967296 ^ 8
  hb : b < 4294967296 ^ 8
theorem Gm.next {w W W' : World} {Z a b : Nat} (h : Gm w W Z a b) (hb : Below W.heap.size W W') : Gm w W' Z a b :=
  ⟨bthen h.below hb (Nat.le_refl _), h.A.below hb, h.B.below hb, h.R.below hb, h.Zr.below hb, h.hz, h.ha, h.hb⟩
theorem Gm.setA {w W : World} {Z a b : Nat} (h : Gm w W Z a b) {c : Nat} (hc : c < 4294967296 ^ 8) : Gm w (put8 W w.heap.size (dg c)) Z c b :=
  ⟨put8_below h.below (Nat.le_refl _) _, h.A.put _, h.B.putFar (by omega) _, h.R.putFar (by omega) _, h.Zr.putFar (by have := h.hz; omega) _, h.hz, hc, h.hb⟩
theorem Gm.setB {w W : World} {Z a b : Nat} (h : Gm w W Z a b) {c : Nat} (hc : c < 4294967296 ^ 8) : Gm w (put8 W (w.heap.size + 1) (dg c)) Z a c :=
  ⟨put8_below h.below (by omega) _, h.A.putFar (by omega) _, h.B.put _, h.R.putFar (by omega) _, h.Zr.putFar (by have := h.hz; omega) _, h.hz, h.ha, hc⟩
theorem Gm.rdA {w W : World} {Z a b : Nat} (h : Gm w W Z a b) : rdN W w.heap.size = a := rdN_eq h.A h.ha
theorem Gm.rdB {w W : World} {Z a b : Nat} (h : Gm w W Z a b) : rdN W (w.heap.size + 1) = b := rdN_eq h.B h.hb
theorem Gm.frA {w W : World} {Z a b : Nat} (h : Gm w W Z a b) : ∀ o, W.frozen? ⟨w.heap.size, o, none⟩ = false := Blk.frozen h.A
theorem Gm.frB {w W : World} {Z a b : Nat} (h : Gm w W Z a b) : ∀ o, W.frozen? ⟨w.heap.size + 1, o, none⟩ = false := Blk.frozen h.B
theorem half_lt {a : Nat} (h : a < 4294967296 ^ 8) : a / 2 < 4294967296 ^ 8 := Nat.lt_of_le_of_lt (Nat.div_le_self _ _) h
theorem half_b (a : Nat) (w : World) (ha : a < 4294967296 ^ 8) : Calls Tryd.prog 86 #[nv a] w (RetN (a / 2) w) := half_any a w ha
def Par (x : Nat) (r : Int) : Prop := ((dg x 0 : Nat) : Int) % 2 = r
theorem even0 {x : Nat} (h : x % 2 = 0) : ((dg x 0 : Nat) : Int) % 2 = 0 := by have := dg_even x; omega
theorem odd0 {x : Nat} (h : x % 2 = 1) : ((dg x 0 : Nat) : Int) % 2 = 1 := by have := dg_even x; omega
theorem two_lt {t g : Nat} (h1 : 0 < g) (h2 : 2 ^ t * g < 4294967296 ^ 8) : t < 256 := by
  rcases Nat.lt_or_ge t 256 with h | h
  · exact h
  · exfalso
    have h3 : 2 ^ 256 ≤ 2 ^ t := Nat.pow_le_pow_right (by omega) h
    have h4 : 2 ^ t * 1 ≤ 2 ^ t * g := Nat.mul_le_mul_left _ h1
    have h5 : (2 : Nat) ^ 256 = 4294967296 ^ 8 := by decide
    rw [h5] at h3
    omega

def Rel1 (a b : Nat) (w : World) (Z : Nat) (v : Value) (wr : World) : Prop :=
  ∃ x y t : Nat, v = .int .i64 (t : Nat) ∧ Gm w wr Z x y ∧ 0 < x ∧ 0 < y ∧ Nat.gcd a b = 2 ^ t * Nat.gcd x y ∧ t < 256
def Rel2 (g : Nat) (w : World) (Z : Nat) (wr : World) : Prop :=
  ∃ x y : Nat, Gm w wr Z x y ∧ 0 < x ∧ (x % 2 = 1 ∨ y % 2 = 1) ∧ Nat.gcd x y = g
def RelA (g y : Nat) (w : World) (Z m : Nat) (wr : World) : Prop :=
  ∃ x : Nat, Gm w wr Z x y ∧ 0 < x ∧ (x % 2 = 1 ∨ y % 2 = 1) ∧ Nat.gcd x y = g ∧ x ≤ m
def RelB (g x : Nat) (w : World) (Z m : Nat) (wr : World) : Prop :=
  ∃ y : Nat, Gm w wr Z x y ∧ 0 < y ∧ Nat.gcd x y = g ∧ y ≤ m
def Rel3 (g t : Nat) (w : World) (Z : Nat) (v : Value) (wr : World) : Prop :=
  ∃ i : Nat, i ≤ t ∧ v = .int .i64 (i : Nat) ∧ Gm w wr Z (2 ^ i * g) 0
theorem gcd_lt {a b : Nat} (h0 : 0 < a) (h : a < 4294967296 ^ 8) : Nat.gcd a b < 4294967296 ^ 8 := Nat.lt_of_le_of_lt (Nat.gcd_le_left _ h0) h
end Go.Proofs.YtlplligfnbkofaaDoor
