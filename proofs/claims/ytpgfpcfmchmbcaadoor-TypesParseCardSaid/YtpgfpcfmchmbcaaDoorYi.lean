/- Of on the example, whole. -/
import Derived.Test.YtpgfpcfmchmbcaaDoorYh
set_option linter.unusedVariables false
set_option linter.unusedSimpArgs false
namespace Go.Proofs.YtpgfpcfmchmbcaaDoor
open Go.RowKit

structure O2 (w W : World) : Prop where
  below : Below w.heap.size w W
  Q : Blk W w.heap.size 48 reqC
  R : Blk W (w.heap.size + 1) 23 #[.int .i64 0, .int .i64 0, .int .i64 0]
theorem O2.next {w W W' : World} (h : O2 w W) (hb : Below W.heap.size W W') : O2 w W' := ⟨bthen h.below hb (Nat.le_refl _), h.Q.below hb, h.R.below hb⟩
theorem O2.only {w W W' : World} {g : Nat} (h : O2 w W) (ho : Only g W W') (hg : w.heap.size + 1 < g) : O2 w W' :=
  ⟨h.below.trans (ho.below (by omega) h.below.size), ho.blk h.Q (by omega), ho.blk h.R (by omega)⟩
theorem O2.start (w : World) : O2 w ((w.alloc (.cells reqC 48)).alloc (.cells #[.int .i64 0, .int .i64 0, .int .i64 0] 23)) :=
  ⟨bel2 _ _ _, (Blk.new _ _ _).alloc _, Blk.newAt _ _ (by simp)⟩
set_option maxHeartbeats 1000000 in
set_option maxRecDepth 100000 in
theorem of_nil (w : World) (hw : WordsW w) : Calls Tryd.prog 18 #[.slice none 0 0, reqV] w (RetB (.tuple #[zeroU, .int .i64 8]) w) := by
  have HW := Box.mk hw; clear hw
  have HB := Lib.hid (O2.start w)
  go_enter Tryd.func18, Tryd.ntmps18
  go_upto_region 1 with (fail)
  generalize ((w.alloc (.cells reqC 48)).alloc (.cells #[.int .i64 0, .int .i64 0, .int .i64 0] 23)) = W at HB ⊢
  obtain ⟨c0, c1, c2, c3, c4, c5, c6, c7, c8, c9, c10⟩ := req_at HB.out.Q
  go_wp2_with fail
  refine (pvalid_req _ (HW.out.below HB.out.below)).mono ?_
  rintro e w1 ⟨rfl, hb⟩
  clear c0 c1 c2 c3 c4 c5 c6 c7 c8 c9 c10
  have HB2 := Lib.hid (HB.out.next hb); clear HB hb
  go_upto_region 5 with (fail)
  have hG : w.heap.size + 1 < w1.heap.size := HB2.out.R.lt
  have HT : Hid (Blk (w1.alloc (.cells #[.slice none 0 0, .int .i64 0] 68)) w1.heap.size 68 #[.slice none 0 0, .int .i64 0]) := Blk.new _ _ _
  have HB := Lib.hid (HB2.out.next (bel1 w1 (.cells #[.slice none 0 0, .int .i64 0] 68))); clear HB2
  generalize w1.heap.size = G at *
  generalize w1.alloc (.cells #[.slice none 0 0, .int .i64 0] 68) = W1 at *
  obtain ⟨c0, c1, c2, c3, c4, c5, c6, c7, c8, c9, c10⟩ := req_at HB.out.Q
  go_wp2_with fail
  refine (unit_req G _ _ #[.slice none 0 0, .int .i64 8] 0 0 0 HT.out (fun W hW => selected_nil G W hW.T)).mono ?_
  rintro e w2 ⟨rfl, hT, ho⟩
  clear c0 c1 c2 c3 c4 c5 c6 c7 c8 c9 c10
  have HB2 := Lib.hid (HB.out.only ho hG)
  have HT2 := Lib.hid hT
  clear HB HT hT ho
  go_upto_region 6 with (fail)
  have HB := Lib.hid (HB2.out.next (bel1 w2 (.cells #[.int .i64 0, .int .i64 0, .int .i64 0] 23)))
  have HT := Lib.hid (HT2.out.alloc (.cells #[.int .i64 0, .int .i64 0, .int .i64 0] 23))
  clear HB2 HT2
  generalize w2.alloc (.cells #[.int .i64 0, .int .i64 0, .int .i64 0] 23) = W2 at *
  obtain ⟨t0, t1⟩ := HT.out.c2
  obtain ⟨r0, r1, r2⟩ := HB.out.R.c3
  have rf := HB.out.R.frozen
  have nG : ¬ G = w.heap.size + 1 := by omega
  have nG2 : ¬ w.heap.size + 1 = G := by omega
  go_wp2_with fail
  go_region
  all_goals
    go_wp2_with fail
    exact bodyPost_ret (v := .tuple #[zeroU, .int .i64 8]) (by simp [results, Tryd.results18, go_sem, r0, r1, r2, rf]) rfl ⟨rfl, by first | exact bset3 HB.out.below (by omega) _ _ _ | exact bdrew (bset3 HB.out.below (by omega) _ _ _) 1⟩
set_option maxHeartbeats 1000000 in
set_option maxRecDepth 100000 in
theorem of_one (B : Nat) (w : World) (hw : WordsW w) (hB : Blk w B 52 declC) : Calls Tryd.prog 18 #[.slice (some ⟨B, 0, none⟩) 1 1, reqV] w (RetB (.tuple #[oneU, .int .i64 0]) w) := by
  have HW := Box.mk hw; clear hw
  have HD := Box.mk hB
  have bz := hB.lt
  clear hB
  have HB := Lib.hid (O2.start w)
  go_enter Tryd.func18, Tryd.ntmps18
  go_upto_region 1 with (fail)
  generalize ((w.alloc (.cells reqC 48)).alloc (.cells #[.int .i64 0, .int .i64 0, .int .i64 0] 23)) = W at HB ⊢
  obtain ⟨c0, c1, c2, c3, c4, c5, c6, c7, c8, c9, c10⟩ := req_at HB.out.Q
  go_wp2_with fail
  refine (pvalid_req _ (HW.out.below HB.out.below)).mono ?_
  rintro e w1 ⟨rfl, hb⟩
  clear c0 c1 c2 c3 c4 c5 c6 c7 c8 c9 c10
  have HB2 := Lib.hid (HB.out.next hb); clear HB hb
  go_upto_region 5 with (fail)
  have hG : w.heap.size + 1 < w1.heap.size := HB2.out.R.lt
  have HT : Hid (Blk (w1.alloc (.cells #[.slice (some ⟨B, 0, none⟩) 1 1, .int .i64 0] 68)) w1.heap.size 68 #[.slice (some ⟨B, 0, none⟩) 1 1, .int .i64 0]) := Blk.new _ _ _
  have HB := Lib.hid (HB2.out.next (bel1 w1 (.cells #[.slice (some ⟨B, 0, none⟩) 1 1, .int .i64 0] 68))); clear HB2
  generalize w1.heap.size = G at *
  generalize w1.alloc (.cells #[.slice (some ⟨B, 0, none⟩) 1 1, .int .i64 0] 68) = W1 at *
  obtain ⟨c0, c1, c2, c3, c4, c5, c6, c7, c8, c9, c10⟩ := req_at HB.out.Q
  have HD1 : Box (Blk W1 B 52 declC) := ⟨(HB.out.below.block B bz).trans HD.out⟩
  have hBG : B ≠ G := by omega
  go_wp2_with fail
  refine (unit_req G _ _ #[.slice (some ⟨B, 0, none⟩) 1 1, .int .i64 0] 1 0 (-1) HT.out (fun W hW => selected_one G B W hW.T (hW.only.blk HD1.out hBG) hBG)).mono ?_
  rintro e w2 ⟨rfl, hT, ho⟩
  clear c0 c1 c2 c3 c4 c5 c6 c7 c8 c9 c10
  have HB2 := Lib.hid (HB.out.only ho hG)
  have HT2 := Lib.hid hT
  clear HB HT hT ho
  go_upto_region 6 with (fail)
  have HB := Lib.hid (HB2.out.next (bel1 w2 (.cells #[.int .i64 1, .int .i64 0, .int .i64 (-1)] 23)))
  have HT := Lib.hid (HT2.out.alloc (.cells #[.int .i64 1, .int .i64 0, .int .i64 (-1)] 23))
  have HN : Hid (Blk (w2.alloc (.cells #[.int .i64 1, .int .i64 0, .int .i64 (-1)] 23)) w2.heap.size 23 #[.int .i64 1, .int .i64 0, .int .i64 (-1)]) := Blk.new _ _ _
  clear HB2 HT2
  generalize w2.heap.size = N at *
  generalize w2.alloc (.cells #[.int .i64 1, .int .i64 0, .int .i64 (-1)] 23) = W2 at *
  obtain ⟨t0, t1⟩ := HT.out.c2
  obtain ⟨n0, n1, n2⟩ := HN.out.c3
  obtain ⟨r0, r1, r2⟩ := HB.out.R.c3
  have rf := HB.out.R.frozen
  go_wp2_with fail
  exact bodyPost_ret (v := .tuple #[oneU, .int .i64 0]) (by simp [results, Tryd.results18, go_sem, r0, r1, r2, rf]) rfl ⟨rfl, bset3 HB.out.below (by omega) _ _ _⟩
end Go.Proofs.YtpgfpcfmchmbcaaDoor
