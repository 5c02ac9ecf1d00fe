/- Contracts, packed: Yh Yi Qj Qu. -/
import Derived.Test.YtcifgobinleldaaGreatDoorPt10
import Derived.Test.YtcifgobinleldaaGreatDoorPt12
set_option linter.unusedVariables false
set_option linter.unusedSimpArgs false
namespace Go.Proofs.YtcifgobinleldaaGreatDoor
section
open Go.RowKit

set_option maxHeartbeats 1000000 in
set_option maxRecDepth 100000 in
theorem unit_req (g : Nat) (w : World) (cs cs' : Array Value) (v0 v1 v2 : Int) (hg : Blk w g 133 cs)
    (hsel : ∀ W, T2 g w W cs → Calls Tryz.prog 124 #[.pointer (some ⟨g, 0, none⟩), reqV] W (RetT g (.agg #[.int .i64 v0, .int .i64 v1, .int .i64 v2]) cs' W)) :
    Calls Tryz.prog 77 #[.pointer (some ⟨g, 0, none⟩), reqV] w (RetT g (.agg #[.int .i64 v0, .int .i64 v1, .int .i64 v2]) cs' w) := by
  have gz := hg.lt
  have HB := Lib.hid (T2.start hg)
  have HS := Box.mk hsel
  clear hg hsel
  go_enter Tryz.func77, Tryz.ntmps77
  go_upto_region 1 with (fail)
  generalize ((w.alloc (.cells reqC 33)).alloc (.cells #[.int .i64 0, .int .i64 0, .int .i64 0] 61)) = W at HB ⊢
  go_upto_region 2 with (fail)
  have HB2 := Lib.hid (HB.out.below (bel1 W (.cells #[.int .i64 0, .int .i64 0, .int .i64 0, .int .i64 0, .int .i64 0, .int .i64 0] 189)))
  generalize W.alloc (.cells #[.int .i64 0, .int .i64 0, .int .i64 0, .int .i64 0, .int .i64 0, .int .i64 0] 189) = W2 at *
  clear HB
  have HB := Lib.hid HB2.out; clear HB2
  obtain ⟨c0, c1, c2, c3, c4, c5, c6, c7, c8, c9, c10⟩ := req_at HB.out.Q
  go_wp2_with fail
  go_loop [11] (fun v => v = .int .i64 0) (fun _ => 0)
  case atStart => rfl
  case round =>
    subst hrel
    go_wp2_with fail
    refine (HS.out _ HB.out).mono ?_
    rintro e w5 ⟨rfl, hT, ho⟩
    clear c0 c1 c2 c3 c4 c5 c6 c7 c8 c9 c10
    have HB2 := Lib.hid (HB.out.next gz ho hT); clear HB hT ho
    have HB := Lib.hid HB2.out; clear HB2
    obtain ⟨r0, r1, r2⟩ := HB.out.R.c3
    have rf := HB.out.R.frozen
    go_wp2_with fail
    exact bodyPost_ret (v := .agg #[.int .i64 v0, .int .i64 v1, .int .i64 v2]) (by simp [results, Tryz.results77, go_sem, r0, r1, r2, rf]) rfl ⟨rfl, blk_R HB.out gz _ _ _, only_R HB.out _ _ _⟩
end
section
open Go.RowKit

structure O2 (w W : World) : Prop where
  below : Below w.heap.size w W
  Q : Blk W w.heap.size 33 reqC
  R : Blk W (w.heap.size + 1) 61 #[.int .i64 0, .int .i64 0, .int .i64 0]
theorem O2.next {w W W' : World} (h : O2 w W) (hb : Below W.heap.size W W') : O2 w W' := ⟨bthen h.below hb (Nat.le_refl _), h.Q.below hb, h.R.below hb⟩
theorem O2.only {w W W' : World} {g : Nat} (h : O2 w W) (ho : Only g W W') (hg : w.heap.size + 1 < g) : O2 w W' :=
  ⟨h.below.trans (ho.below (by omega) h.below.size), ho.blk h.Q (by omega), ho.blk h.R (by omega)⟩
theorem O2.start (w : World) : O2 w ((w.alloc (.cells reqC 33)).alloc (.cells #[.int .i64 0, .int .i64 0, .int .i64 0] 61)) :=
  ⟨bel2 _ _ _, (Blk.new _ _ _).alloc _, Blk.newAt _ _ (by simp)⟩
set_option maxHeartbeats 1000000 in
set_option maxRecDepth 100000 in
theorem of_nil (w : World) (hw : WordsW w) : Calls Tryz.prog 33 #[.slice none 0 0, reqV] w (RetB (.tuple #[zeroU, .int .i64 8]) w) := by
  have HW := Box.mk hw; clear hw
  have HB := Lib.hid (O2.start w)
  go_enter Tryz.func33, Tryz.ntmps33
  go_upto_region 1 with (fail)
  generalize ((w.alloc (.cells reqC 33)).alloc (.cells #[.int .i64 0, .int .i64 0, .int .i64 0] 61)) = W at HB ⊢
  obtain ⟨c0, c1, c2, c3, c4, c5, c6, c7, c8, c9, c10⟩ := req_at HB.out.Q
  go_wp2_with fail
  refine (pvalid_req _ (HW.out.below HB.out.below)).mono ?_
  rintro e w1 ⟨rfl, hb⟩
  clear c0 c1 c2 c3 c4 c5 c6 c7 c8 c9 c10
  have HB2 := Lib.hid (HB.out.next hb); clear HB hb
  go_upto_region 5 with (fail)
  have hG : w.heap.size + 1 < w1.heap.size := HB2.out.R.lt
  have HT : Hid (Blk (w1.alloc (.cells #[.slice none 0 0, .int .i64 0] 133)) w1.heap.size 133 #[.slice none 0 0, .int .i64 0]) := Blk.new _ _ _
  have HB := Lib.hid (HB2.out.next (bel1 w1 (.cells #[.slice none 0 0, .int .i64 0] 133))); clear HB2
  generalize w1.heap.size = G at *
  generalize w1.alloc (.cells #[.slice none 0 0, .int .i64 0] 133) = W1 at *
  obtain ⟨c0, c1, c2, c3, c4, c5, c6, c7, c8, c9, c10⟩ := req_at HB.out.Q
  go_wp2_with fail
  refine (unit_req G _ _ #[.slice none 0 0, .int .i64 8] 0 0 0 HT.out (fun W hW => selected_nil G W hW.T)).mono ?_
  rintro e w2 ⟨rfl, hT, ho⟩
  clear c0 c1 c2 c3 c4 c5 c6 c7 c8 c9 c10
  have HB2 := Lib.hid (HB.out.only ho hG)
  have HT2 := Lib.hid hT
  clear HB HT hT ho
  go_upto_region 6 with (fail)
  have HB := Lib.hid (HB2.out.next (bel1 w2 (.cells #[.int .i64 0, .int .i64 0, .int .i64 0] 61)))
  have HT := Lib.hid (HT2.out.alloc (.cells #[.int .i64 0, .int .i64 0, .int .i64 0] 61))
  clear HB2 HT2
  generalize w2.alloc (.cells #[.int .i64 0, .int .i64 0, .int .i64 0] 61) = W2 at *
  obtain ⟨t0, t1⟩ := HT.out.c2
  obtain ⟨r0, r1, r2⟩ := HB.out.R.c3
  have rf := HB.out.R.frozen
  have nG : ¬ G = w.heap.size + 1 := by omega
  have nG2 : ¬ w.heap.size + 1 = G := by omega
  go_wp2_with fail
  go_region
  all_goals
    go_wp2_with fail
    exact bodyPost_ret (v := .tuple #[zeroU, .int .i64 8]) (by simp [results, Tryz.results33, go_sem, r0, r1, r2, rf]) rfl ⟨rfl, by first | exact bset3 HB.out.below (by omega) _ _ _ | exact bdrew (bset3 HB.out.below (by omega) _ _ _) 1⟩
set_option maxHeartbeats 1000000 in
set_option maxRecDepth 100000 in
theorem of_one (B : Nat) (w : World) (hw : WordsW w) (hB : Blk w B 63 declC) : Calls Tryz.prog 33 #[.slice (some ⟨B, 0, none⟩) 1 1, reqV] w (RetB (.tuple #[oneU, .int .i64 0]) w) := by
  have HW := Box.mk hw; clear hw
  have HD := Box.mk hB
  have bz := hB.lt
  clear hB
  have HB := Lib.hid (O2.start w)
  go_enter Tryz.func33, Tryz.ntmps33
  go_upto_region 1 with (fail)
  generalize ((w.alloc (.cells reqC 33)).alloc (.cells #[.int .i64 0, .int .i64 0, .int .i64 0] 61)) = W at HB ⊢
  obtain ⟨c0, c1, c2, c3, c4, c5, c6, c7, c8, c9, c10⟩ := req_at HB.out.Q
  go_wp2_with fail
  refine (pvalid_req _ (HW.out.below HB.out.below)).mono ?_
  rintro e w1 ⟨rfl, hb⟩
  clear c0 c1 c2 c3 c4 c5 c6 c7 c8 c9 c10
  have HB2 := Lib.hid (HB.out.next hb); clear HB hb
  go_upto_region 5 with (fail)
  have hG : w.heap.size + 1 < w1.heap.size := HB2.out.R.lt
  have HT : Hid (Blk (w1.alloc (.cells #[.slice (some ⟨B, 0, none⟩) 1 1, .int .i64 0] 133)) w1.heap.size 133 #[.slice (some ⟨B, 0, none⟩) 1 1, .int .i64 0]) := Blk.new _ _ _
  have HB := Lib.hid (HB2.out.next (bel1 w1 (.cells #[.slice (some ⟨B, 0, none⟩) 1 1, .int .i64 0] 133))); clear HB2
  generalize w1.heap.size = G at *
  generalize w1.alloc (.cells #[.slice (some ⟨B, 0, none⟩) 1 1, .int .i64 0] 133) = W1 at *
  obtain ⟨c0, c1, c2, c3, c4, c5, c6, c7, c8, c9, c10⟩ := req_at HB.out.Q
  have HD1 : Box (Blk W1 B 63 declC) := ⟨(HB.out.below.block B bz).trans HD.out⟩
  have hBG : B ≠ G := by omega
  go_wp2_with fail
  refine (unit_req G _ _ #[.slice (some ⟨B, 0, none⟩) 1 1, .int .i64 0] 1 0 (-1) HT.out (fun W hW => selected_one G B W hW.T (hW.only.blk HD1.out hBG) hBG)).mono ?_
  rintro e w2 ⟨rfl, hT, ho⟩
  clear c0 c1 c2 c3 c4 c5 c6 c7 c8 c9 c10
  have HB2 := Lib.hid (HB.out.only ho hG)
  have HT2 := Lib.hid hT
  clear HB HT hT ho
  go_upto_region 6 with (fail)
  have HB := Lib.hid (HB2.out.next (bel1 w2 (.cells #[.int .i64 1, .int .i64 0, .int .i64 (-1)] 61)))
  have HT := Lib.hid (HT2.out.alloc (.cells #[.int .i64 1, .int .i64 0, .int .i64 (-1)] 61))
  have HN : Hid (Blk (w2.alloc (.cells #[.int .i64 1, .int .i64 0, .int .i64 (-1)] 61)) w2.heap.size 61 #[.int .i64 1, .int .i64 0, .int .i64 (-1)]) := Blk.new _ _ _
  clear HB2 HT2
  generalize w2.heap.size = N at *
  generalize w2.alloc (.cells #[.int .i64 1, .int .i64 0, .int .i64 (-1)] 61) = W2 at *
  obtain ⟨t0, t1⟩ := HT.out.c2
  obtain ⟨n0, n1, n2⟩ := HN.out.c3
  obtain ⟨r0, r1, r2⟩ := HB.out.R.c3
  have rf := HB.out.R.frozen
  go_wp2_with fail
  exact bodyPost_ret (v := .tuple #[oneU, .int .i64 0]) (by simp [results, Tryz.results33, go_sem, r0, r1, r2, rf]) rfl ⟨rfl, bset3 HB.out.below (by omega) _ _ _⟩
end
section
open Go.RowKit

def RetMsO (w : World) (e : Ending) (w' : World) : Prop := ∃ (ms : List Mat) (A : Option Addr) (n c : Nat), e = .returned (.slice A n c) ∧ w'.ownsRow w.heap.size 114 3 (.slice A n c) ms.length (ms.flatMap matCells) ∧ ms.length ≤ 3 ∧ (∀ m ∈ ms, GoodMat m) ∧ Below w.heap.size w w'
set_option maxRecDepth 100000 in
set_option maxHeartbeats 2000000 in
theorem matchers_own (A : Option Addr) (n c base : Nat) (l : List Int) (w : World) (h : Ints w base (.slice A n c) l) (hbase : base ≤ w.heap.size) :
    Calls Tryz.prog 30 #[.slice A n c] w (RetMsO w) := by
  obtain ⟨i0, hi, hz0, hz1, hz2⟩ := info_parts strInfo
  obtain ⟨j0, hj, hy0, hy1, hy2⟩ := info_parts matInfo
  obtain ⟨hp1, hp2⟩ := pick_bd l 0 4 (by omega)
  have HI := Lib.hid h
  have HJ := Lib.hid (And.intro hj (And.intro hy0 (And.intro hy1 hy2)))
  clear h hj hy0 hy1 hy2
  go_enter Tryz.func30, Tryz.ntmps30
  go_wp2_with (first
    | (go_at_call 71; refine (names_any _).mono ?_; rintro e w1 ⟨rfl, rfl⟩)
    | (go_at_call 72; refine (values_any _).mono ?_; rintro e w2 ⟨rfl, rfl⟩)
    | (at_builtin; refine wpList_append_lies _ rfl _ _ 30 rfl w.heap.size 9 i0 _ 1 16 Tryz.underlying30 hi hz0 hz1 hz2 rfl (by decide) (.slice (some ⟨w.heap.size + 1, 0, none⟩) 6 6) 6 (valuesL.map Value.string) rfl (by exact (own_newAt (w := w.alloc _) _ _ 6 _ (by simp) (by omega) rfl rfl (by omega)).alloc _) ⟨w.heap.size + 1 + 1, 0, none⟩ 2 2 [.string ⟨#[]⟩, .string ⟨#[120]⟩] rfl rfl (cells2At (by simp) _ _ _) (by intro u hu; simp at hu; rcases hu with rfl | rfl <;> rfl) (by decide) (by unfold maxLen; omega) (by omega) (by simp; omega) _ rfl ?_; intro g8 cap8 w4 hown4 hg4 hat4 hlt4))
  have HS : Hid (Strs w4 w.heap.size (.slice (some ⟨w.heap.size, 0, none⟩) 6 6) namesL ∧ Strs w4 w.heap.size (.slice (some ⟨g8, 0, none⟩) (6 + 2) cap8) valuesL8 ∧ Below w.heap.size w w4) := by
    have hb3 : Below w.heap.size w (((w.alloc (.cells #[.string ⟨#[97]⟩, .string ⟨#[97, 98]⟩, .string ⟨#[98]⟩, .string ⟨#[106, 111, 98]⟩, .string ⟨#[120, 95, 49]⟩, .string ⟨#[122, 111, 110, 101]⟩] 9)).alloc (.cells #[.string ⟨#[97]⟩, .string ⟨#[97, 98]⟩, .string ⟨#[98]⟩, .string ⟨#[120, 49]⟩, .string ⟨#[126, 33]⟩, .string ⟨#[48]⟩] 9)).alloc (.cells #[.string ⟨#[]⟩, .string ⟨#[120]⟩] 9)) := ((bel1 _ _).alloc (by simp) _).alloc (by simp; omega) _
    have hn := (own_newAt (w := w) (base := w.heap.size) #[.string ⟨#[97]⟩, .string ⟨#[97, 98]⟩, .string ⟨#[98]⟩, .string ⟨#[106, 111, 98]⟩, .string ⟨#[120, 95, 49]⟩, .string ⟨#[122, 111, 110, 101]⟩] 9 6 (namesL.map Value.string) rfl (Nat.le_refl _) rfl rfl (by omega))
    refine ⟨Seq.of_own (((hn.alloc _).alloc _).kept hg4 (.inr ?_)), Seq.of_own hown4, hb3.grown hg4 (by simp; omega) (fun k hk => by simp [Value.ownBlock] at hk; omega)⟩
    simp [Value.ownBlock]
  clear hown4 hg4 hat4
  go_loopw [5, 6] (fun v i wr => MsRel w (pickZ l 0 4) (.slice (some ⟨w.heap.size, 0, none⟩) 6 6) (.slice (some ⟨g8, 0, none⟩) (6 + 2) cap8) v i wr) (fun _ i _ => (pickZ l 0 4 - intOf i).toNat)
  case atStart => exact ⟨0, [], by omega, rfl, rfl, fun x hx => by simp at hx, World.ownsRow_nil _ _ _ _, HS.out.1, HS.out.2.1, HS.out.2.2⟩
  case round =>
    obtain ⟨k, ms, hk, rfl, hlen, hgood, hown, hsn, hsv, hbw⟩ := hrel
    have hsz := hbw.size
    clear HS
    have HIr := Lib.hid (HI.out.below hbw)
    by_cases hlt : (k : Int) < pickZ l 0 4
    · obtain ⟨q1, q2⟩ := pick_bd l (3 * (k : Int) + 1) 6 (by omega)
      obtain ⟨q3, q4⟩ := pick_bd l (3 * (k : Int) + 2) 3 (by omega)
      obtain ⟨q5, q6⟩ := pick_bd l (3 * (k : Int) + 3) 8 (by omega)
      obtain ⟨b1, off1, x1, hA1, hb1, hx1, hc1⟩ := hsn.pick _ q1 (by simp [namesL]; omega)
      obtain ⟨b2, off2, x2, hA2, hb2, hx2, hc2⟩ := hsv.pick _ q5 (by simp [valuesL8, valuesL]; omega)
      simp only [Option.some.injEq, Addr.mk.injEq, and_true] at hA1 hA2
      obtain ⟨rfl, rfl⟩ := hA1
      obtain ⟨rfl, rfl⟩ := hA2
      simp only [Nat.zero_add] at hc1 hc2
      have HFT := Lib.hid (And.intro hb1 hb2)
      clear hb1 hb2
      have HG : Hid (GoodMat (x1, pickZ l (3 * (k : Int) + 2) 3, x2)) := ⟨hx1, ⟨q3, q4⟩, hx2⟩
      have HR := Lib.hid (And.intro hlen (And.intro hgood (And.intro hown (And.intro hsn (And.intro hsv hbw)))))
      clear hlen hgood hown hsn hsv hbw hx1 hx2
      have t1 : IntKind.i64.wrap (3 * (k : Int)) = 3 * (k : Int) := by rw [IntWalk.i64_in _ (by omega)]
      have t2 : IntKind.i64.wrap (3 * (k : Int) + 1) = 3 * (k : Int) + 1 := by rw [IntWalk.i64_in _ (by omega)]
      have t3 : IntKind.i64.wrap (3 * (k : Int) + 2) = 3 * (k : Int) + 2 := by rw [IntWalk.i64_in _ (by omega)]
      have t4 : IntKind.i64.wrap (3 * (k : Int) + 3) = 3 * (k : Int) + 3 := by rw [IntWalk.i64_in _ (by omega)]
      go_wp2_with (go_at_call 45; refine (pick_any _ _ _ base l _ _ _ HIr.out (by omega) (by omega)).mono ?_; rintro e w' ⟨rfl, rfl⟩)
      go_region_held3 (fun w' => w'.cell? ⟨w.heap.size, (pickZ l (3 * (k : Int) + 1) 6).toNat, none⟩ = some (.string x1) ∧ w'.cell? ⟨g8, (pickZ l (3 * (k : Int) + 3) 8).toNat, none⟩ = some (.string x2)) (first | go_keep | exact HK9.out)
        (first
          | (refine step_append_lies _ rfl _ _ 29 rfl w.heap.size 114 j0 _ 3 40 Tryz.underlying29 HJ.out.1 HJ.out.2.1 HJ.out.2.2.1 HJ.out.2.2.2 rfl (by decide) u5 k (ms.flatMap matCells) rfl (by exact (HR.out.2.2.1).alloc _) ⟨wr.heap.size, 0, none⟩ 1 1 (matCells (x1, pickZ l (3 * (k : Int) + 2) 3, x2)) rfl rfl (cells3 _ _ _ _ _) (mat_one _) (by decide) (by unfold maxLen; omega) (by omega) (by simp; omega) _ rfl ?_
             intro g cap w9 hown9 hg9 hat9 hlt9
             have HF9 : Hid (Fr w.heap.size [114] wr w9) := grow_fr HR.out.2.2.1 (by first | exact bel1 _ _ | exact (bel1 _ _).drew) hg9
             have HK9 : Hid (w9.cell? ⟨w.heap.size, (pickZ l (3 * (k : Int) + 1) 6).toNat, none⟩ = some (.string x1) ∧ w9.cell? ⟨g8, (pickZ l (3 * (k : Int) + 3) 8).toNat, none⟩ = some (.string x2)) := ⟨fit_cell HFT.out.1 HF9.out (by decide) hc1, fit_cell HFT.out.2 HF9.out (by decide) hc2⟩
             have HO9 := Lib.hid hown9
             clear hown9 hg9 hat9)
          | (go_at_call 45; refine (pick_any _ _ _ base l _ _ _ (by exact HIr.out) (by omega) (by omega)).mono ?_; rintro e w' ⟨rfl, rfl⟩))
      have HFIN : Hid (w9.ownsRow w.heap.size 114 3 (.slice (some ⟨g, 0, none⟩) (k + 1) cap) (k + 1) ((ms ++ [(x1, pickZ l (3 * (k : Int) + 2) 3, x2)]).flatMap matCells)) := by rw [Hid, List.flatMap_append]; simpa using HO9.out
      clear t1 t2 t3 t4 HO9
      go_wp2
      go_roundw
      case rel =>
        refine ⟨k + 1, ms ++ [(x1, pickZ l (3 * (k : Int) + 2) 3, x2)], by omega, by go_num, by simp [HR.out.1], fun x hx => ?_, HFIN.out, HR.out.2.2.2.1.keep HF9.out (by decide), HR.out.2.2.2.2.1.keep HF9.out (by decide), HR.out.2.2.2.2.2.trans (fr_below HF9.out hsz)⟩
        rcases List.mem_append.1 hx with hx | hx
        · exact HR.out.2.1 x hx
        · simp at hx; subst hx; exact HG.out
      case measure => simp [intOf]; omega
    · obtain ⟨A2, c2, hv2⟩ := own_form hown
      have HV := Lib.hid hv2
      clear hv2
      go_wp2_with (go_at_call 45; refine (pick_any _ _ _ base l _ _ _ HIr.out (by omega) (by omega)).mono ?_; rintro e w' ⟨rfl, rfl⟩)
      go_ret
      exact ⟨ms, A2, k, c2, congrArg Ending.returned HV.out, by have h := hown; rw [HV.out] at h; rw [hlen]; exact h, by omega, hgood, hbw⟩
end
section
open Go.RowKit FracM

theorem okU_in {u : U3} (h : okU u = true) : (-3 ≤ u.1 ∧ u.1 ≤ 3) ∧ (-3 ≤ u.2.1 ∧ u.2.1 ≤ 3) ∧ (-3 ≤ u.2.2 ∧ u.2.2 ≤ 3) := by
  simpa [okU, in3, and_assoc] using h
theorem sub_self (u : U3) : subU u u = u0 := by
  unfold subU u0; simp only [Int.sub_self]; rfl
theorem add_zero {u : U3} (h : okU u = true) : addU u0 u = u := by
  obtain ⟨h1, h2, h3⟩ := okU_in h
  obtain ⟨a, b, c⟩ := u
  simp only at h1 h2 h3
  unfold addU u0
  simp only [Int.zero_add]
  rw [W64_in (by omega) (by omega), W64_in (by omega) (by omega), W64_in (by omega) (by omega)]
theorem unitM_bad {D : List Dc} {d : Nd} {t : Tree} {ts : List Tree} (h : (unitM D t).2 ≠ 0) : unitM D (.node d (t :: ts)) = (u0, (unitM D t).2) := by
  rw [unitM, unitL, if_neg h, if_neg h]
end
end Go.Proofs.YtcifgobinleldaaGreatDoor
