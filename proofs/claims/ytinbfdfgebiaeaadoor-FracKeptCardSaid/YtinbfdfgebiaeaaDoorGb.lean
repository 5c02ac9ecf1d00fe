/- Middle; FracBetween: the walk. -/
import Derived.Test.YtinbfdfgebiaeaaDoorFl
set_option linter.unusedVariables false
set_option linter.unusedSimpArgs false
namespace Go.Proofs.YtinbfdfgebiaeaaDoor
open Go.RowKit FracM

theorem sm_of {p q : Int} (h1 : -500 ≤ p) (h2 : p ≤ 500) (h3 : 1 ≤ q) (h4 : q ≤ 500) : ∃ a b, newF p q = (a, b, 0) ∧ Sm a b := by
  rw [newF_pos (by omega) (by omega) (by omega)]
  obtain ⟨a, b, hl⟩ := low_small (p := p) (q := q.natAbs) (by unfold M; omega) (by unfold M; omega)
  refine ⟨a, b, hl, low_valid (by omega) hl, ?_⟩
  unfold low at hl
  split at hl
  · obtain ⟨ha, hb⟩ := Prod.mk.inj hl
    obtain ⟨hb, _⟩ := Prod.mk.inj hb
    have e1 : a.natAbs ≤ p.natAbs := by
      rw [← ha, natAbs_sign_mul (fun h => by simp [h])]; exact Nat.div_le_self _ _
    have e2 : q.natAbs / Nat.gcd p.natAbs q.natAbs ≤ q.natAbs := Nat.div_le_self _ _
    have e3 : 0 < q.natAbs / Nat.gcd p.natAbs q.natAbs := Nat.div_pos (Nat.le_of_dvd (by omega) (Nat.gcd_dvd_right _ _)) (Nat.gcd_pos_of_pos_right _ (by omega))
    omega
  · simp at hl
def RetM (w : World) (e : Ending) (w' : World) : Prop := ∃ a b, e = .returned (.agg #[.int .i64 a, .int .i64 b]) ∧ Sm a b ∧ Below w.heap.size w w'
/-- three fractions of the call's own -/
structure Bt (w W : World) (g1 g2 g3 : Nat) (a1 b1 a2 b2 a3 b3 : Int) : Prop where
  below : Below w.heap.size w W
  k1 : Blk W g1 24 #[.int .i64 a1, .int .i64 b1]
  k2 : Blk W g2 24 #[.int .i64 a2, .int .i64 b2]
  k3 : Blk W g3 24 #[.int .i64 a3, .int .i64 b3]
theorem Bt.next {w W W' : World} {g1 g2 g3 : Nat} {a1 b1 a2 b2 a3 b3 : Int} (h : Bt w W g1 g2 g3 a1 b1 a2 b2 a3 b3) (hb : Below W.heap.size W W') : Bt w W' g1 g2 g3 a1 b1 a2 b2 a3 b3 :=
  ⟨bthen h.below hb (Nat.le_refl _), h.k1.below hb, h.k2.below hb, h.k3.below hb⟩
theorem Bt.cells {w W : World} {g1 g2 g3 : Nat} {a1 b1 a2 b2 a3 b3 : Int} (h : Bt w W g1 g2 g3 a1 b1 a2 b2 a3 b3) : W.cell? ⟨g1, 0, none⟩ = some (.int .i64 a1) ∧ W.cell? ⟨g1, 1, none⟩ = some (.int .i64 b1) ∧ W.cell? ⟨g2, 0, none⟩ = some (.int .i64 a2) ∧ W.cell? ⟨g2, 1, none⟩ = some (.int .i64 b2) ∧ W.cell? ⟨g3, 0, none⟩ = some (.int .i64 a3) ∧ W.cell? ⟨g3, 1, none⟩ = some (.int .i64 b3) :=
  ⟨h.k1.c2.1, h.k1.c2.2, h.k2.c2.1, h.k2.c2.2, h.k3.c2.1, h.k3.c2.2⟩
/-- a fraction whose numbers are ints -/
def Fit2 (n d : Int) : Prop := -9223372036854775808 ≤ n ∧ n ≤ 9223372036854775807 ∧ -9223372036854775808 ≤ d ∧ d ≤ 9223372036854775807
theorem cmp_c {n1 d1 n2 d2 c : Int} (w : World) (h : cmpF n1 d1 n2 d2 = c) (f1 : Fit2 n1 d1) (f2 : Fit2 n2 d2) :
    Calls Tryd.prog 32 #[.agg #[.int .i64 n1, .int .i64 d1], .agg #[.int .i64 n2, .int .i64 d2]] w fun e w' => e = .returned (.int .i64 c) ∧ Below w.heap.size w w' := by
  subst h; exact compare_any n1 d1 n2 d2 w f1.1 f1.2.1 f1.2.2.1 f1.2.2.2 f2.1 f2.2.1 f2.2.2.1 f2.2.2.2
end Go.Proofs.YtinbfdfgebiaeaaDoor
