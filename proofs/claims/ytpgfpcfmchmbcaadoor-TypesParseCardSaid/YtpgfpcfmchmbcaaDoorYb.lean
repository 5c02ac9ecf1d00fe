/- The query of the law's examples: the checks of package parser. -/
import Derived.Test.YtpgfpcfmchmbcaaDoorYa
import Derived.Test.YtpgfpcfmchmbcaaDoorStr
set_option linter.unusedVariables false
set_option linter.unusedSimpArgs false
namespace Go.Proofs.YtpgfpcfmchmbcaaDoor
open Go.RowKit

abbrev reqC : Array Value := #[.int .i64 1, .int .i64 6, .int .i64 5, .int .i64 0, .int .i64 0, .int .i64 0, .int .i64 0, .string ⟨#[114, 101, 113]⟩, .slice none 0 0, .slice none 0 0, .slice none 0 0]
abbrev reqV : Value := .agg reqC
def RetB (v : Value) (w : World) (e : Ending) (w' : World) : Prop := e = .returned v ∧ Below w.heap.size w w'
set_option maxHeartbeats 1000000 in
theorem shaped_req (w : World) : Calls Tryd.prog 56 #[reqV] w (RetB (.bool true) w) := by
  go_enter Tryd.func56, Tryd.ntmps56
  go_wp2_with fail
  go_ret
  exact ⟨rfl, bel1 _ _⟩
set_option maxHeartbeats 1000000 in
theorem ranged_req (w : World) : Calls Tryd.prog 58 #[reqV] w (RetB (.bool true) w) := by
  go_enter Tryd.func58, Tryd.ntmps58
  go_wp2_with fail
  go_ret
  exact ⟨rfl, bel1 _ _⟩
set_option maxHeartbeats 1000000 in
theorem count_req (w : World) (g : Nat) (hg : Blk w g 3 #[.int .i64 200]) : Calls Tryd.prog 55 #[reqV, .int .i64 1, .pointer (some ⟨g, 0, none⟩)] w fun e w' => e = .returned (.tuple #[]) ∧ Blk w' g 3 #[.int .i64 199] ∧ w.heap.size ≤ w'.heap.size ∧ Below g w w' := by
  have HG := Box.mk hg
  have c0 := hg.c1
  have cf := hg.frozen
  have gz := hg.lt
  have gn : ¬ g = w.heap.size := by omega
  have gm : ¬ w.heap.size = g := by omega
  clear hg
  go_enter Tryd.func55, Tryd.ntmps55
  go_wp2_with fail
  go_loopw [6] (fun v wr => v = .int .i64 0 ∧ Blk wr g 3 #[.int .i64 199] ∧ Blk wr w.heap.size 48 reqC ∧ Below g w wr) (fun _ _ => 0)
  case atStart => exact ⟨rfl, Blk.alloc (by simpa using HG.out.set 0 (.int .i64 199)) _, Blk.newAt _ _ (by simp [World.setCell]), ((Below.refl g w).setCell (p := ⟨g, 0, none⟩) (Nat.le_refl _) _).alloc (by simp [World.setCell]; omega) _⟩
  case round =>
    obtain ⟨rfl, h1, h2, h3⟩ := hrel
    have H1 := Box.mk h1; have H3 := Box.mk h3
    have c1 := h1.c1
    have c2 : wr.cell? ⟨w.heap.size, 10, none⟩ = some (.slice none 0 0) := by unfold Blk at h2; simp [World.cell?, h2]
    clear h1 h2 h3
    go_wp2_with fail
    go_end0
    exact ⟨rfl, H1.out, H3.out.size, H3.out⟩
set_option maxHeartbeats 1000000 in
theorem fits_req (w : World) : Calls Tryd.prog 36 #[reqV] w (RetB (.bool true) w) := by
  go_enter Tryd.func36, Tryd.ntmps36
  go_wp2_with fail
  refine (count_req _ (w.heap.size + 1) (Blk.newAt _ _ (by simp))).mono ?_
  rintro e w1 ⟨rfl, h1, h2, h3⟩
  have HB : Box (Below w.heap.size w w1) := ⟨(bel2 _ _ _).trans (h3.mono (by omega))⟩
  have c1 := h1.c1
  clear h1 h2 h3
  go_wp2_with fail
  go_ret
  exact ⟨rfl, HB.out⟩
theorem name_req : nameB ⟨#[114, 101, 113]⟩ = true := by decide +kernel
/-- what the program's own variables hold -/
structure WordsW (w : World) : Prop where
  groups : ∀ k : Nat, k < 5 → ∃ s : ByteArray, w.cell? ⟨5, k, none⟩ = some (.string s) ∧ (s.toList == [114, 101, 113]) = false
  units : w.cell? ⟨0, 0, none⟩ = some (.string ⟨#[105, 116, 101, 109]⟩) ∧ w.cell? ⟨0, 1, none⟩ = some (.string ⟨#[98, 121, 116, 101]⟩) ∧ w.cell? ⟨0, 2, none⟩ = some (.string ⟨#[116, 105, 99, 107]⟩)
  low : 5 < w.heap.size ∧ 0 < w.heap.size
end Go.Proofs.YtpgfpcfmchmbcaaDoor
