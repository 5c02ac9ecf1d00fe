/- Text of the reference. -/
import Derived.Test.YtlplligfnbkofaaDoorTa
import Derived.Test.YtlplligfnbkofaaDoorNe
import Derived.Deep.RegionHeld3
import Derived.Deep.DeepCutAuto
set_option linter.unusedVariables false
set_option linter.unusedSimpArgs false
namespace Go.Proofs.YtlplligfnbkofaaDoor
open Go.RowKit FracM

theorem ba_assoc (a b c : ByteArray) : a ++ b ++ c = a ++ (b ++ c) := by apply ByteArray.ext; simp [Array.append_assoc]
structure B1 (w W : World) (n d : Int) : Prop where
  below : Below w.heap.size w W
  blk : Blk W w.heap.size 23 #[.int .i64 n, .int .i64 d]
theorem B1.next {w W W' : World} {n d : Int} (h : B1 w W n d) (hb : Below W.heap.size W W') : B1 w W' n d := ⟨bthen h.below hb (Nat.le_refl _), h.blk.below hb⟩
theorem B1.start (w : World) (n d : Int) : B1 w (w.alloc (.cells #[.int .i64 n, .int .i64 d] 23)) n d := ⟨bel1 _ _, Blk.new _ _ _⟩
theorem dec_b {n : Int} {s : ByteArray} (w : World) (hs : itoaB n = s) (h1 : -9223372036854775808 ≤ n) (h2 : n ≤ 9223372036854775807) : Calls Tryd.prog 58 #[.int .i64 n] w (RetS s w) := by
  subst hs
  refine (decimal_any n w h1 h2).mono ?_
  rintro e w' ⟨rfl, rfl⟩
  exact ⟨rfl, Below.refl _ _⟩
set_option maxHeartbeats 1000000 in
theorem rtext_any (n d : Int) (w : World) (l1 : -9223372036854775808 ≤ n) (u1 : n ≤ 9223372036854775807) (l2 : -9223372036854775808 ≤ d) (u2 : d ≤ 9223372036854775807) :
    Calls Tryd.prog 24 #[.agg #[.int .i64 n, .int .i64 d]] w (RetS (textF n d) w) := by
  by_cases v : validB n d = true
  case neg =>
    replace v : validB n d = false := by simpa using v
    have E : Hid (textF n d = ⟨#[]⟩) := by show textF n d = _; unfold textF; simp [v]
    go_enter Tryd.func24, Tryd.ntmps24
    go_wp2_with fail
    refine (rvalid_any n d _ (by omega) (by omega) (by omega) (by omega)).mono ?_
    rintro e w1 ⟨rfl, hb1⟩
    rw [v]
    have HB := Lib.hid ((B1.start w n d).next hb1)
    clear hb1
    go_wp2_with fail
    go_ret
    exact ⟨ret_str (by rw [E.out]), HB.out.below⟩
  by_cases d1 : d = 1
  · subst d1
    have E : Box (textF n 1 = itoaB n) := ⟨by unfold textF; rw [if_pos v]; rfl⟩
    go_enter Tryd.func24, Tryd.ntmps24
    go_wp2_with fail
    refine (rvalid_any n 1 _ (by omega) (by omega) (by omega) (by omega)).mono ?_
    rintro e w1 ⟨rfl, hb1⟩
    rw [v]
    have HB := Lib.hid ((B1.start w n 1).next hb1)
    clear hb1
    obtain ⟨p0, p1⟩ := HB.out.blk.c2
    go_wp2_with fail
    refine (decimal_any n _ (by omega) (by omega)).mono ?_
    rintro e w2 ⟨rfl, rfl⟩
    go_wp2_with fail
    go_ret
    exact ⟨ret_str (by rw [E.out]), HB.out.below⟩
  · have d2 : (d == 1) = false := by simp [d1]
    obtain ⟨s1, hs1⟩ : ∃ s, itoaB n = s := ⟨_, rfl⟩
    obtain ⟨s2, hs2⟩ : ∃ s, itoaB d = s := ⟨_, rfl⟩
    have i1 := itoa_len n (by omega) (by omega)
    have i2 := itoa_len d (by omega) (by omega)
    rw [hs1] at i1; rw [hs2] at i2
    have E : Box (textF n d = s1 ++ ⟨#[47]⟩ ++ s2) := ⟨by unfold textF; rw [if_pos v, if_neg d1, hs1, hs2, ba_assoc]; rfl⟩
    have H1 := Box.mk hs1; have H2 := Box.mk hs2
    clear d1 hs1 hs2
    have a1 := fun W => run_string_add_sum (P := Tryd.prog) (w := W) s1 ⟨#[47]⟩ (by rw [sl1]; omega)
    have a2 := fun W => run_string_add_sum (P := Tryd.prog) (w := W) (s1 ++ ⟨#[47]⟩) s2 (by rw [ByteArray.size_append, sl1]; omega)
    go_enter Tryd.func24, Tryd.ntmps24
    go_wp2_with fail
    refine (rvalid_any n d _ (by omega) (by omega) (by omega) (by omega)).mono ?_
    rintro e w1 ⟨rfl, hb1⟩
    rw [v]
    have HB := Lib.hid ((B1.start w n d).next hb1)
    clear hb1
    obtain ⟨p0, p1⟩ := HB.out.blk.c2
    go_upto_region 6 with (fail)
    go_region_held3 (fun w' => w'.cell? ⟨w.heap.size, 0, none⟩ = some (.int .i64 n) ∧ w'.cell? ⟨w.heap.size, 1, none⟩ = some (.int .i64 d))
      (first | exact HB.out.blk.c2 | exact (HB.out.next (below_drewN _ _)).blk.c2 | go_keep)
      (first
        | (go_at_call 58; (with_reducible refine (dec_b _ H1.out l1 u1).mono ?_); rintro e w5 ⟨rfl, hb5⟩; have HB2 : Hid (B1 w w5 n d) := (by first | exact HB.out.next hb5 | exact (HB.out.next (below_drewN _ _)).next hb5); clear HB; have HB := Lib.hid HB2.out; clear HB2; clear hb5)
        | (go_at_call 58; (with_reducible refine (dec_b _ H2.out l2 u2).mono ?_); rintro e w5 ⟨rfl, hb5⟩; have HB2 : Hid (B1 w w5 n d) := (by first | exact HB.out.next hb5 | exact (HB.out.next (below_drewN _ _)).next hb5); clear HB; have HB := Lib.hid HB2.out; clear HB2; clear hb5))
    all_goals
      go_wp2_with fail
      go_ret
      exact ⟨ret_str (by rw [E.out]), HB.out.below⟩
end Go.Proofs.YtlplligfnbkofaaDoor
