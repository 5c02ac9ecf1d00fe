/- The query of the law's examples: names; parser.Valid. -/
import Derived.Test.YtpgfpcfmchmbcaaDoorYb
import Derived.Test.YtpgfpcfmchmbcaaDoorStr2
set_option linter.unusedVariables false
set_option linter.unusedSimpArgs false
namespace Go.Proofs.YtpgfpcfmchmbcaaDoor
open Go.RowKit

abbrev reqS : ByteArray := ⟨#[114, 101, 113]⟩
theorem WordsW.below {w w' : World} (h : WordsW w) (hb : Below w.heap.size w w') : WordsW w' := by
  obtain ⟨h1, ⟨h2, h3, h4⟩, h5, h6⟩ := h
  refine ⟨fun k hk => ?_, ⟨(hb.cell h6).trans h2, (hb.cell h6).trans h3, (hb.cell h6).trans h4⟩, Nat.lt_of_lt_of_le h5 hb.size, Nat.lt_of_lt_of_le h6 hb.size⟩
  obtain ⟨s, hs, hn⟩ := h1 k hk
  exact ⟨s, (hb.cell h5).trans hs, hn⟩
set_option maxHeartbeats 400000 in
theorem index_req (w : World) (hw : WordsW w) : Calls Tryd.prog 24 #[.slice (some ⟨5, 0, none⟩) 5 5, .string reqS] w fun e w' => e = .returned (.int .i64 (-1)) ∧ w' = w := by
  have HW := Box.mk hw; clear hw
  go_enter Tryd.func24, Tryd.ntmps24
  go_wp2
  go_loop [8] (fun v => ∃ k : Nat, k ≤ 5 ∧ v = .int .i64 (k : Nat)) (fun v => (5 - intOf v).toNat)
  case atStart => exact ⟨0, by omega, rfl⟩
  case round =>
    obtain ⟨k, hk, rfl⟩ := hrel
    by_cases h5 : k = 5
    · subst h5
      go_wp2
      go_ret
      exact ⟨rfl, rfl⟩
    · obtain ⟨s, hs, hn⟩ := HW.out.groups k (by omega)
      have hn1 : (([114, 101, 113] : List UInt8) == s.toList) = false := by rw [beq_eq_false_iff_ne] at hn ⊢; exact fun h => hn h.symm
      have hk2 : (k : Int) < 5 := by omega
      have hk3 : k < 5 := by omega
      clear h5
      go_wp2
      go_round
      case rel => exact ⟨k + 1, by omega, rfl⟩
      case measure => simp [intOf]; omega
set_option maxHeartbeats 400000 in
theorem contains_req (w : World) (hw : WordsW w) : Calls Tryd.prog 80 #[.slice (some ⟨5, 0, none⟩) 5 5, .string reqS] w (RetB (.bool false) w) := by
  have HW := Box.mk hw; clear hw
  go_enter Tryd.func80, Tryd.ntmps80
  go_wp2_with fail
  refine (index_req _ HW.out).mono ?_
  rintro e w1 ⟨rfl, rfl⟩
  go_wp2_with fail
  go_ret
  exact ⟨rfl, Below.refl _ _⟩
theorem name_s (w : World) : Calls Tryd.prog 79 #[.string reqS] w (RetB (.bool true) w) := by
  have := name_any reqS w (by decide)
  rw [name_req] at this
  exact this
structure Q1 (w W : World) : Prop where
  below : Below w.heap.size w W
  blk : Blk W w.heap.size 48 reqC
theorem Q1.next {w W W' : World} (h : Q1 w W) (hb : Below W.heap.size W W') : Q1 w W' := ⟨bthen h.below hb (Nat.le_refl _), h.blk.below hb⟩
theorem Q1.start (w : World) : Q1 w (w.alloc (.cells reqC 48)) := ⟨bel1 _ _, Blk.new _ _ _⟩
abbrev ReqAt (g : Nat) (w' : World) : Prop := w'.cell? ⟨g, 0, none⟩ = some (.int .i64 1) ∧ w'.cell? ⟨g, 1, none⟩ = some (.int .i64 6) ∧ w'.cell? ⟨g, 2, none⟩ = some (.int .i64 5) ∧ w'.cell? ⟨g, 3, none⟩ = some (.int .i64 0) ∧ w'.cell? ⟨g, 4, none⟩ = some (.int .i64 0) ∧ w'.cell? ⟨g, 5, none⟩ = some (.int .i64 0) ∧ w'.cell? ⟨g, 6, none⟩ = some (.int .i64 0) ∧ w'.cell? ⟨g, 7, none⟩ = some (.string reqS) ∧ w'.cell? ⟨g, 8, none⟩ = some (.slice none 0 0) ∧ w'.cell? ⟨g, 9, none⟩ = some (.slice none 0 0) ∧ w'.cell? ⟨g, 10, none⟩ = some (.slice none 0 0)
theorem req_at {W : World} {g : Nat} (h : Blk W g 48 reqC) : ReqAt g W := by
  unfold Blk at h
  refine ⟨?_, ?_, ?_, ?_, ?_, ?_, ?_, ?_, ?_, ?_, ?_⟩ <;> simp [World.cell?, h]
theorem Q1.c {w W : World} (h : Q1 w W) : ReqAt w.heap.size W := req_at h.blk
set_option maxHeartbeats 1000000 in
set_option maxRecDepth 100000 in
theorem named_req (w : World) (hw : WordsW w) : Calls Tryd.prog 57 #[reqV] w (RetB (.bool true) w) := by
  have HW := Box.mk hw; clear hw
  go_enter Tryd.func57, Tryd.ntmps57
  have HB := Lib.hid (Q1.start w)
  go_upto_region 1 with (fail)
  generalize w.alloc (.cells reqC 48) = W at HB ⊢
  obtain ⟨c0, c1, c2, c3, c4, c5, c6, c7, c8, c9, c10⟩ := HB.out.c
  clear c1 c2 c3 c4 c5 c6 c8 c9 c10
  go_cut [21] (fun x wx => x = .bool false ∧ Q1 w wx)
  case first =>
    go_region_held3 (fun w' => w'.cell? ⟨w.heap.size, 0, none⟩ = some (.int .i64 1) ∧ w'.cell? ⟨w.heap.size, 7, none⟩ = some (.string reqS))
      (first | exact ⟨HB.out.c.1, HB.out.c.2.2.2.2.2.2.2.1⟩ | exact ⟨(HB.out.next (below_drewN _ _)).c.1, (HB.out.next (below_drewN _ _)).c.2.2.2.2.2.2.2.1⟩ | go_keep)
      (first
        | (go_at_call 79; refine (name_s _).mono ?_; rintro e w5 ⟨rfl, hb5⟩; have HB2 : Hid (Q1 w w5) := (by first | exact HB.out.next hb5 | exact (HB.out.next (below_drewN _ _)).next hb5); clear HB; have HB := Lib.hid HB2.out; clear HB2; clear hb5)
        | (go_at_call 80; refine (contains_req _ (by first | exact HW.out.below HB.out.below | exact HW.out.below (HB.out.next (below_drewN _ _)).below)).mono ?_; rintro e w5 ⟨rfl, hb5⟩; have HB2 : Hid (Q1 w w5) := (by first | exact HB.out.next hb5 | exact (HB.out.next (below_drewN _ _)).next hb5); clear HB; have HB := Lib.hid HB2.out; clear HB2; clear hb5))
    all_goals
      go_wp2_with fail
      go_meet
      exact ⟨rfl, HB.out⟩
  case rest =>
    clear HB c0 c7
    obtain ⟨rfl, hbx⟩ := hcut
    rename World => wd
    have HB := Lib.hid hbx; clear hbx
    obtain ⟨c0, c1, c2, c3, c4, c5, c6, c7, c8, c9, c10⟩ := HB.out.c
    clear c0 c1 c2 c3 c4 c5 c6 c7
    go_wp2_with fail
    go_loop [25] (fun v => v = .int .i64 0) (fun _ => 0)
    case atStart => rfl
    case round =>
      subst hrel
      go_wp2_with fail
      go_loop [36] (fun v => v = .int .i64 0) (fun _ => 0)
      case atStart => rfl
      case round =>
        subst hrel
        go_wp2_with fail
        go_ret
        exact ⟨rfl, HB.out.below⟩
end Go.Proofs.YtpgfpcfmchmbcaaDoor
