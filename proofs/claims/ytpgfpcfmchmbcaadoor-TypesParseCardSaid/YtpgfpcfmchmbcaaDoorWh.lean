/- TypesParse: the walk. -/
import Derived.Test.YtpgfpcfmchmbcaaDoorWg
set_option linter.unusedVariables false
set_option linter.unusedSimpArgs false
namespace Go.Proofs.YtpgfpcfmchmbcaaDoor
open Go.RowKit FracM

structure VS (w W : World) (vs : List (Nat × V3)) : Prop where
  below : Below w.heap.size w W
  vars : ∀ x ∈ vs, Blk W x.1 23 (vC x.2)
theorem VS.next {w W W' : World} {vs : List (Nat × V3)} (h : VS w W vs) (hb : Below W.heap.size W W') : VS w W' vs := ⟨bthen h.below hb (Nat.le_refl _), fun x hx => (h.vars x hx).below hb⟩
theorem VS.add {w W : World} {vs : List (Nat × V3)} (h : VS w W vs) (u : V3) : VS w (W.alloc (.cells (vC u) 23)) ((W.heap.size, u) :: vs) :=
  ⟨bthen h.below (bel1 _ _) (Nat.le_refl _), fun x hx => by
    rcases List.mem_cons.1 hx with rfl | hx
    · exact Blk.new _ _ _
    · exact (h.vars x hx).alloc _⟩
set_option maxHeartbeats 400000 in
theorem short30 (s : ByteArray) (w : World) (hs : s.size ≤ maxLen) : Calls Tryd.prog 9 #[.string s, .int .i64 30] w (RetTx 30 w) := by
  have hm : s.size ≤ 9223372036854775807 := by unfold maxLen at hs; omega
  clear hs
  by_cases h : s.size ≤ 30
  · have h2 : ¬ (30 : Int) < (s.size : Int) := by omega
    go_enter Tryd.func9, Tryd.ntmps9
    go_wp2_with fail
    go_ret
    exact ⟨s, rfl, h, Below.refl _ _⟩
  · have h2 : (30 : Int) < (s.size : Int) := by omega
    have h3 : (30 : Int) ≤ (s.size : Int) := by omega
    have h4 : 30 ≤ s.size := by omega
    go_enter Tryd.func9, Tryd.ntmps9
    go_wp2_with fail
    go_ret
    exact ⟨_, rfl, by simp [ByteArray.size_extract]; try omega, Below.refl _ _⟩
set_option maxHeartbeats 8000000 in
set_option maxRecDepth 100000 in
theorem typesParse_walk (s : ByteArray) (n at' how c : Int) (w : World) (hw : WordsW w ∧ LibP w) (hs : s.size ≤ maxLen) (ln : -9223372036854775808 ≤ n) (rn : n ≤ 9223372036854775807) (la : -9223372036854775808 ≤ at') (ra : at' ≤ 9223372036854775807) (lh : -9223372036854775808 ≤ how) (rh : how ≤ 9223372036854775807) (lc : 0 ≤ c) (rc : c ≤ 255) :
    Calls Tryd.prog 4 #[.string s, .int .i64 n, .int .i64 at', .int .i64 how, .int .u8 c] w fun e w' => e = .returned (.bool true) ∧ Below w.heap.size w w' := by
  have HW := Box.mk hw; clear hw
  have HS := Box.mk hs; clear hs
  have BN := Box.mk (And.intro ln rn)
  have BA := Box.mk (And.intro (And.intro la ra) (And.intro (And.intro lh rh) (And.intro lc rc)))
  clear ln rn la ra lh rh lc rc
  go_enter Tryd.func4, Tryd.ntmps4
  go_wp2_with fail
  refine (short30 s _ HS.out).mono ?_
  rintro e w1 ⟨few, rfl, hfew, hb1⟩
  have H1 : Box (VS w w1 []) := ⟨hb1, fun x hx => by simp at hx⟩
  clear hb1
  go_wp2_with fail
  refine (unit_any n _ BN.out.1 BN.out.2).mono ?_
  rintro e w2 ⟨a, b, c', rfl, -, hb2⟩
  obtain ⟨u, hu⟩ : ∃ u : V3, u = (a, b, c') := ⟨_, rfl⟩
  obtain rfl : u.1 = a := by rw [hu]
  obtain rfl : u.2.1 = b := by rw [hu]
  obtain rfl : u.2.2 = c' := by rw [hu]
  clear hu
  have H2 := Box.mk (H1.out.next hb2); clear H1 hb2
  go_wp2_with fail
  refine (rtx_any u _).mono ?_
  rintro e w3 ⟨rfl, hb3⟩
  have H3 := Box.mk (H2.out.next hb3); clear H2 hb3
  go_wp2_with fail
  refine (mutated_any (bs (txL u)) at' how c _ (by rw [bs_size]; have := tx_len u; omega) BA.out.1.1 BA.out.1.2 BA.out.2.1.1 BA.out.2.1.2 BA.out.2.2.1 BA.out.2.2.2).mono ?_
  rintro e w4 ⟨t, rfl, ht0, hb4⟩
  have ht : t.size ≤ 900 := by omega
  have H4 := Box.mk (H3.out.next hb4); clear H3 hb4
  obtain ⟨ua, ea, HA⟩ : ∃ u e, Box (parM few.data.toList = (u, e)) := ⟨_, _, ⟨rfl⟩⟩
  obtain ⟨ux, ex, HX⟩ : ∃ u e, Box (parM t.data.toList = (u, e)) := ⟨_, _, ⟨rfl⟩⟩
  go_wp2_with fail
  refine (parse_any few _ (by omega) (HW.out.1.below H4.out.below) (HW.out.2.below H4.out.below)).mono ?_
  rintro e w5 ⟨rfl, hb5⟩
  rw [HA.out]
  have H5 := Box.mk (H4.out.next hb5); clear H4 hb5
  go_upto_region 4 with (fail)
  have H6 := Box.mk (H5.out.add ua); clear H5
  generalize w5.alloc (.cells (vC ua) 23) = W5 at *
  generalize w5.heap.size = pa at *
  go_wp2_with fail
  refine (rparse_any few _).mono ?_
  rintro e w5 ⟨rfl, hb5⟩
  rw [HA.out]
  have H7 := Box.mk (H6.out.next hb5); clear H6 hb5
  go_upto_region 5 with (fail)
  have H8 := Box.mk (H7.out.add ua); clear H7
  generalize w5.alloc (.cells (vC ua) 23) = W5 at *
  generalize w5.heap.size = pb at *
  go_wp2_with fail
  refine (parse_any t _ ht (HW.out.1.below H8.out.below) (HW.out.2.below H8.out.below)).mono ?_
  rintro e w5 ⟨rfl, hb5⟩
  rw [HX.out]
  have H9 := Box.mk (H8.out.next hb5); clear H8 hb5
  go_upto_region 6 with (fail)
  have H10 := Box.mk (H9.out.add ux); clear H9
  generalize w5.alloc (.cells (vC ux) 23) = W5 at *
  generalize w5.heap.size = px at *
  go_wp2_with fail
  refine (rparse_any t _).mono ?_
  rintro e w5 ⟨rfl, hb5⟩
  rw [HX.out]
  have H11 := Box.mk (H10.out.next hb5); clear H10 hb5
  go_upto_region 7 with (fail)
  have H12 := Box.mk (H11.out.add ux); clear H11
  generalize w5.alloc (.cells (vC ux) 23) = W5 at *
  generalize w5.heap.size = py at *
  obtain ⟨a0, a1, a2⟩ := (H12.out.vars (pa, ua) (by simp)).c3
  obtain ⟨b0, b1, b2⟩ := (H12.out.vars (pb, ua) (by simp)).c3
  obtain ⟨x0, x1, x2⟩ := (H12.out.vars (px, ux) (by simp)).c3
  obtain ⟨y0, y1, y2⟩ := (H12.out.vars (py, ux) (by simp)).c3
  have hq1 := fun W : World => (eq_units ua ua W).trans (by rw [decide_eq_true rfl])
  have hq2 := fun W : World => (eq_units ux ux W).trans (by rw [decide_eq_true rfl])
  have he1 : (ea == ea) = true := by simp
  have he2 : (ex == ex) = true := by simp
  go_wp2_with fail
  refine (lives_true _ (HW.out.1.below H12.out.below)).mono ?_
  rintro e w6 ⟨rfl, hb6⟩
  have HB := Box.mk (bthen H12.out.below hb6 (Nat.le_refl _)); clear H12 hb6
  go_wp2_with fail
  go_ret
  exact ⟨rfl, HB.out⟩
end Go.Proofs.YtpgfpcfmchmbcaaDoor
