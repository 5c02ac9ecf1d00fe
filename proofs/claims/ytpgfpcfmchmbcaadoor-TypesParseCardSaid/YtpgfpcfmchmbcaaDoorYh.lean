/- Of on the example. -/
import Derived.Test.YtpgfpcfmchmbcaaDoorYg
set_option linter.unusedVariables false
set_option linter.unusedSimpArgs false
namespace Go.Proofs.YtpgfpcfmchmbcaaDoor
open Go.RowKit

set_option maxHeartbeats 1000000 in
set_option maxRecDepth 100000 in
theorem unit_req (g : Nat) (w : World) (cs cs' : Array Value) (v0 v1 v2 : Int) (hg : Blk w g 68 cs)
    (hsel : ∀ W, T2 g w W cs → Calls Tryd.prog 38 #[.pointer (some ⟨g, 0, none⟩), reqV] W (RetT g (.agg #[.int .i64 v0, .int .i64 v1, .int .i64 v2]) cs' W)) :
    Calls Tryd.prog 27 #[.pointer (some ⟨g, 0, none⟩), reqV] w (RetT g (.agg #[.int .i64 v0, .int .i64 v1, .int .i64 v2]) cs' w) := by
  have gz := hg.lt
  have HB := Lib.hid (T2.start hg)
  have HS := Box.mk hsel
  clear hg hsel
  go_enter Tryd.func27, Tryd.ntmps27
  go_upto_region 1 with (fail)
  generalize ((w.alloc (.cells reqC 48)).alloc (.cells #[.int .i64 0, .int .i64 0, .int .i64 0] 23)) = W at HB ⊢
  go_upto_region 2 with (fail)
  have HB2 := Lib.hid (HB.out.below (bel1 W (.cells #[.int .i64 0, .int .i64 0, .int .i64 0, .int .i64 0, .int .i64 0, .int .i64 0] 75)))
  generalize W.alloc (.cells #[.int .i64 0, .int .i64 0, .int .i64 0, .int .i64 0, .int .i64 0, .int .i64 0] 75) = W2 at *
  clear HB
  have HB := Lib.hid HB2.out; clear HB2
  obtain ⟨c0, c1, c2, c3, c4, c5, c6, c7, c8, c9, c10⟩ := req_at HB.out.Q
  go_wp2_with fail
  go_loop [11] (fun v => v = .int .i64 0) (fun _ => 0)
  case atStart => rfl
  case round =>
    subst hrel
    go_wp2_with fail
    refine (HS.out _ HB.out).mono ?_
    rintro e w5 ⟨rfl, hT, ho⟩
    clear c0 c1 c2 c3 c4 c5 c6 c7 c8 c9 c10
    have HB2 := Lib.hid (HB.out.next gz ho hT); clear HB hT ho
    have HB := Lib.hid HB2.out; clear HB2
    obtain ⟨r0, r1, r2⟩ := HB.out.R.c3
    have rf := HB.out.R.frozen
    go_wp2_with fail
    exact bodyPost_ret (v := .agg #[.int .i64 v0, .int .i64 v1, .int .i64 v2]) (by simp [results, Tryd.results27, go_sem, r0, r1, r2, rf]) rfl ⟨rfl, blk_R HB.out gz _ _ _, only_R HB.out _ _ _⟩
end Go.Proofs.YtpgfpcfmchmbcaaDoor
