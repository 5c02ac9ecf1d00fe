/- separate: a silence with matchers of its own. -/
import Derived.Test.YtoafpajibeejlaaSil
set_option linter.unusedVariables false
set_option linter.unusedSimpArgs false
namespace Go.Proofs.Ytoafpajibeejlaa
open Go.RowKit

/-- a silence is returned whose matchers lie in memory -/
def RetSil (w : World) (base : Nat) (id : Int) (ms : List Mat) (ow se : ByteArray) (cl fr un cp hd : Int) (e : Ending) (w' : World) : Prop :=
  ∃ A n c, e = .returned (.agg #[.int .i64 id, .slice A n c, .string ow, .string se, .int .i64 cl, .int .i64 fr, .int .i64 un, .int .i64 cp, .int .i64 hd]) ∧ Mats w' base (.slice A n c) ms ∧ Below w.heap.size w w'

set_option maxHeartbeats 400000 in
theorem separate_any (id cl fr un cp hd : Int) (ow se : ByteArray) (A : Option Addr) (n c : Nat) (base : Nat) (ms : List Mat) (w : World) (hm : Mats w base (.slice A n c) ms) (hn : n ≤ 1000) (hbase : base ≤ w.heap.size) :
    Calls Try.prog 59 #[.agg #[.int .i64 id, .slice A n c, .string ow, .string se, .int .i64 cl, .int .i64 fr, .int .i64 un, .int .i64 cp, .int .i64 hd]] w (RetSil w base id ms ow se cl fr un cp hd) := by
  have HM := Lib.hid hm
  clear hm
  go_enter Try.func59, Try.ntmps59
  go_wp2_with (go_at_call 42; refine (clone_any _ _ _ base ms _ (by exact ((HM.out.below (bel1 _ _)).below (bel1 _ _)).below (bel1 _ _)) hn).mono ?_; rintro e w1 ⟨A', n', c', rfl, hm1, hb1⟩; obtain ⟨hc1, hf1⟩ := bcell hb1; have hz1 := hb1.size; have HM1 := Lib.hid hm1; have HB1 := Lib.hid hb1; clear hm1 hb1)
  refine bodyPost_ret (v := .agg #[.int .i64 id, .slice A' n' c', .string ow, .string se, .int .i64 cl, .int .i64 fr, .int .i64 un, .int .i64 cp, .int .i64 hd]) (by simp [results, Try.results59, go_sem, hc1]) rfl ⟨A', n', c', rfl, ?_, ?_⟩
  · have t2 : TyAt w1 (w.heap.size + 1) 24 := ((TyAt.newAt (w := w.alloc _) _ _ _ (by simp)).alloc _).below HB1.out
    have t3 : TyAt w1 (w.heap.size + 1 + 1) 24 := (TyAt.newAt (w := (w.alloc _).alloc _) _ _ _ (by simp)).below HB1.out
    exact HM1.out.keep (T := [24]) ((Fr.set (Fr.refl _ _ _) (a := ⟨w.heap.size + 1 + 1, 1, none⟩) t3 (by decide) (by simp only; omega) _).trans (fr_set9 (t2.set _ _) (by decide) (by omega) _ _ _ _ _ _ _ _ _)) (by decide)
  · have hb := HB1.out
    have h1 : Below w.heap.size w w1 := (((bel1 w _).alloc (by simp) _).alloc (by simp; omega) _).trans (hb.mono (by simp; omega))
    exact (h1.setCell (p := ⟨w.heap.size + 1 + 1, 1, none⟩) (by simp only; omega) _).trans (below_set9 _ (by omega) _ _ _ _ _ _ _ _ _)
end Go.Proofs.Ytoafpajibeejlaa
