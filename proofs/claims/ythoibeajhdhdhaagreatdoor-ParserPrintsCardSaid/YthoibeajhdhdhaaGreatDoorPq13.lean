/- Contracts, packed: Qi Yh Yi Qt Qj Qu. -/
import Derived.Test.YthoibeajhdhdhaaGreatDoorPq7
import Derived.Test.YthoibeajhdhdhaaGreatDoorPq12
set_option linter.unusedVariables false
set_option linter.unusedSimpArgs false
namespace Go.Proofs.YthoibeajhdhdhaaGreatDoor
section
open Go.RowKit
end
section
open Go.RowKit
end
section
open Go.RowKit
end
section
open Go.RowKit FracM

def numsL : List Int := [0, 1, 2, 7, 10, 1073741824]
inductive GoodN (ns : List ByteArray) (most : Int) : Nd → Nat → Prop
  | num (x : Int) (h : x ∈ numsL) : GoodN ns most ⟨0, 0, 0, 0, 0, x, 1, ⟨#[]⟩, [], []⟩ 0
  | sel (fn win off k : Int) (nm : ByteArray) (ms : List Mat) (h1 : 0 ≤ fn) (h2 : fn < 8) (hn : nm ∈ ns) (ho : 0 ≤ off) (ho2 : off ≤ most)
      (hw : (fn = 0 ∧ win = 0) ∨ (fn ≠ 0 ∧ 1 ≤ win ∧ win ≤ most)) (hk : (fn ≠ 7 ∧ k = 0) ∨ (fn = 7 ∧ 1 ≤ k ∧ k ≤ win)) (hl : ms.length ≤ 3) (hm : ∀ m ∈ ms, GoodMat m) :
      GoodN ns most ⟨1, fn, win, off, k, 0, 0, nm, ms, []⟩ 0
  | grp (fn k : Int) (bys : List ByteArray) (h1 : 0 ≤ fn) (h2 : fn < 5) (hk : (fn ≠ 4 ∧ k = 0) ∨ (fn = 4 ∧ 1 ≤ k ∧ k ≤ 3)) (hb : bys.Sublist namesL) : GoodN ns most ⟨2, fn, 0, 0, k, 0, 0, ⟨#[]⟩, [], bys⟩ 1
  | bin (fn : Int) (h1 : 0 ≤ fn) (h2 : fn < 4) : GoodN ns most ⟨3, fn, 0, 0, 0, 0, 0, ⟨#[]⟩, [], []⟩ 2
inductive GoodT (ns : List ByteArray) (most : Int) : Tree → Prop
  | mk (d : Nd) (ks : List Tree) (h : GoodN ns most d ks.length) (hk : ∀ t ∈ ks, GoodT ns most t) : GoodT ns most (.node d ks)

def NamesOk (ns : List ByteArray) : Prop := ∀ x ∈ ns, nameB x = true ∧ inGroups x = false ∧ x.size ≤ 16
/-- numbers and strings fit -/
theorem good_ok1 {ns : List ByteArray} {most : Int} {d : Nd} {n : Nat} (h : GoodN ns most d n) (hn : NamesOk ns) (hm : most ≤ 4096) : -9223372036854775808 ≤ d.k ∧ d.k ≤ 4096 ∧ (∀ m ∈ d.ms, m.1.size ≤ maxLen ∧ m.2.2.size ≤ maxLen) ∧ (∀ s ∈ d.bys, s.size ≤ maxLen) := by
  cases h with
  | num x hx => exact ⟨by simp, by simp, by simp, by simp⟩
  | sel fn win off k nm ms h1 h2 hnm ho ho2 hw hk hl hms => exact ⟨by simp only; omega, by simp only; omega, fun m hm => (good_ok (by omega) hms).2 m hm, by simp⟩
  | grp fn k bys h1 h2 hk hb => exact ⟨by simp only; omega, by simp only; omega, by simp, fun s hs => by have := (namesL_ok s (hb.subset hs)).2; unfold maxLen; omega⟩
  | bin fn h1 h2 => exact ⟨by simp, by simp, by simp, by simp⟩
end
section
open Go.RowKit

def RetMsO (w : World) (e : Ending) (w' : World) : Prop := ∃ (ms : List Mat) (A : Option Addr) (n c : Nat), e = .returned (.slice A n c) ∧ w'.ownsRow w.heap.size 91 3 (.slice A n c) ms.length (ms.flatMap matCells) ∧ ms.length ≤ 3 ∧ (∀ m ∈ ms, GoodMat m) ∧ Below w.heap.size w w'
set_option maxRecDepth 100000 in
set_option maxHeartbeats 2000000 in
theorem matchers_own (A : Option Addr) (n c base : Nat) (l : List Int) (w : World) (h : Ints w base (.slice A n c) l) (hbase : base ≤ w.heap.size) :
    Calls Tryz.prog 127 #[.slice A n c] w (RetMsO w) := by
  obtain ⟨i0, hi, hz0, hz1, hz2⟩ := info_parts strInfo
  obtain ⟨j0, hj, hy0, hy1, hy2⟩ := info_parts matInfo
  obtain ⟨hp1, hp2⟩ := pick_bd l 0 4 (by omega)
  have HI := Lib.hid h
  have HJ := Lib.hid (And.intro hj (And.intro hy0 (And.intro hy1 hy2)))
  clear h hj hy0 hy1 hy2
  go_enter Tryz.func127, Tryz.ntmps127
  go_wp2_with (first
    | (go_at_call 128; refine (names_any _).mono ?_; rintro e w1 ⟨rfl, rfl⟩)
    | (go_at_call 144; refine (values_any _).mono ?_; rintro e w2 ⟨rfl, rfl⟩)
    | (at_builtin; refine wpList_append_lies _ rfl _ _ 26 rfl w.heap.size 9 i0 _ 1 16 Tryz.underlying26 hi hz0 hz1 hz2 rfl (by decide) (.slice (some ⟨w.heap.size + 1, 0, none⟩) 6 6) 6 (valuesL.map Value.string) rfl (by exact (own_newAt (w := w.alloc _) _ _ 6 _ (by simp) (by omega) rfl rfl (by omega)).alloc _) ⟨w.heap.size + 1 + 1, 0, none⟩ 2 2 [.string ⟨#[]⟩, .string ⟨#[120]⟩] rfl rfl (cells2At (by simp) _ _ _) (by intro u hu; simp at hu; rcases hu with rfl | rfl <;> rfl) (by decide) (by unfold maxLen; omega) (by omega) (by simp; omega) _ rfl ?_; intro g8 cap8 w4 hown4 hg4 hat4 hlt4))
  have HS : Hid (Strs w4 w.heap.size (.slice (some ⟨w.heap.size, 0, none⟩) 6 6) namesL ∧ Strs w4 w.heap.size (.slice (some ⟨g8, 0, none⟩) (6 + 2) cap8) valuesL8 ∧ Below w.heap.size w w4) := by
    have hb3 : Below w.heap.size w (((w.alloc (.cells #[.string ⟨#[97]⟩, .string ⟨#[97, 98]⟩, .string ⟨#[98]⟩, .string ⟨#[106, 111, 98]⟩, .string ⟨#[120, 95, 49]⟩, .string ⟨#[122, 111, 110, 101]⟩] 9)).alloc (.cells #[.string ⟨#[97]⟩, .string ⟨#[97, 98]⟩, .string ⟨#[98]⟩, .string ⟨#[120, 49]⟩, .string ⟨#[126, 33]⟩, .string ⟨#[48]⟩] 9)).alloc (.cells #[.string ⟨#[]⟩, .string ⟨#[120]⟩] 9)) := ((bel1 _ _).alloc (by simp) _).alloc (by simp; omega) _
    have hn := (own_newAt (w := w) (base := w.heap.size) #[.string ⟨#[97]⟩, .string ⟨#[97, 98]⟩, .string ⟨#[98]⟩, .string ⟨#[106, 111, 98]⟩, .string ⟨#[120, 95, 49]⟩, .string ⟨#[122, 111, 110, 101]⟩] 9 6 (namesL.map Value.string) rfl (Nat.le_refl _) rfl rfl (by omega))
    refine ⟨Seq.of_own (((hn.alloc _).alloc _).kept hg4 (.inr ?_)), Seq.of_own hown4, hb3.grown hg4 (by simp; omega) (fun k hk => by simp [Value.ownBlock] at hk; omega)⟩
    simp [Value.ownBlock]
  clear hown4 hg4 hat4
  go_loopw [5, 6] (fun v i wr => MsRel w (pickZ l 0 4) (.slice (some ⟨w.heap.size, 0, none⟩) 6 6) (.slice (some ⟨g8, 0, none⟩) (6 + 2) cap8) v i wr) (fun _ i _ => (pickZ l 0 4 - intOf i).toNat)
  case atStart => exact ⟨0, [], by omega, rfl, rfl, fun x hx => by simp at hx, World.ownsRow_nil _ _ _ _, HS.out.1, HS.out.2.1, HS.out.2.2⟩
  case round =>
    obtain ⟨k, ms, hk, rfl, hlen, hgood, hown, hsn, hsv, hbw⟩ := hrel
    have hsz := hbw.size
    clear HS
    have HIr := Lib.hid (HI.out.below hbw)
    by_cases hlt : (k : Int) < pickZ l 0 4
    · obtain ⟨q1, q2⟩ := pick_bd l (3 * (k : Int) + 1) 6 (by omega)
      obtain ⟨q3, q4⟩ := pick_bd l (3 * (k : Int) + 2) 3 (by omega)
      obtain ⟨q5, q6⟩ := pick_bd l (3 * (k : Int) + 3) 8 (by omega)
      obtain ⟨b1, off1, x1, hA1, hb1, hx1, hc1⟩ := hsn.pick _ q1 (by simp [namesL]; omega)
      obtain ⟨b2, off2, x2, hA2, hb2, hx2, hc2⟩ := hsv.pick _ q5 (by simp [valuesL8, valuesL]; omega)
      simp only [Option.some.injEq, Addr.mk.injEq, and_true] at hA1 hA2
      obtain ⟨rfl, rfl⟩ := hA1
      obtain ⟨rfl, rfl⟩ := hA2
      simp only [Nat.zero_add] at hc1 hc2
      have HFT := Lib.hid (And.intro hb1 hb2)
      clear hb1 hb2
      have HG : Hid (GoodMat (x1, pickZ l (3 * (k : Int) + 2) 3, x2)) := ⟨hx1, ⟨q3, q4⟩, hx2⟩
      have HR := Lib.hid (And.intro hlen (And.intro hgood (And.intro hown (And.intro hsn (And.intro hsv hbw)))))
      clear hlen hgood hown hsn hsv hbw hx1 hx2
      have t1 : IntKind.i64.wrap (3 * (k : Int)) = 3 * (k : Int) := by rw [IntWalk.i64_in _ (by omega)]
      have t2 : IntKind.i64.wrap (3 * (k : Int) + 1) = 3 * (k : Int) + 1 := by rw [IntWalk.i64_in _ (by omega)]
      have t3 : IntKind.i64.wrap (3 * (k : Int) + 2) = 3 * (k : Int) + 2 := by rw [IntWalk.i64_in _ (by omega)]
      have t4 : IntKind.i64.wrap (3 * (k : Int) + 3) = 3 * (k : Int) + 3 := by rw [IntWalk.i64_in _ (by omega)]
      go_wp2_with (go_at_call 54; refine (pick_any _ _ _ base l _ _ _ HIr.out (by omega) (by omega)).mono ?_; rintro e w' ⟨rfl, rfl⟩)
      go_region_held3 (fun w' => w'.cell? ⟨w.heap.size, (pickZ l (3 * (k : Int) + 1) 6).toNat, none⟩ = some (.string x1) ∧ w'.cell? ⟨g8, (pickZ l (3 * (k : Int) + 3) 8).toNat, none⟩ = some (.string x2)) (first | go_keep | exact HK9.out)
        (first
          | (refine step_append_lies _ rfl _ _ 25 rfl w.heap.size 91 j0 _ 3 40 Tryz.underlying25 HJ.out.1 HJ.out.2.1 HJ.out.2.2.1 HJ.out.2.2.2 rfl (by decide) u5 k (ms.flatMap matCells) rfl (by exact (HR.out.2.2.1).alloc _) ⟨wr.heap.size, 0, none⟩ 1 1 (matCells (x1, pickZ l (3 * (k : Int) + 2) 3, x2)) rfl rfl (cells3 _ _ _ _ _) (mat_one _) (by decide) (by unfold maxLen; omega) (by omega) (by simp; omega) _ rfl ?_
             intro g cap w9 hown9 hg9 hat9 hlt9
             have HF9 : Hid (Fr w.heap.size [91] wr w9) := grow_fr HR.out.2.2.1 (by first | exact bel1 _ _ | exact (bel1 _ _).drew) hg9
             have HK9 : Hid (w9.cell? ⟨w.heap.size, (pickZ l (3 * (k : Int) + 1) 6).toNat, none⟩ = some (.string x1) ∧ w9.cell? ⟨g8, (pickZ l (3 * (k : Int) + 3) 8).toNat, none⟩ = some (.string x2)) := ⟨fit_cell HFT.out.1 HF9.out (by decide) hc1, fit_cell HFT.out.2 HF9.out (by decide) hc2⟩
             have HO9 := Lib.hid hown9
             clear hown9 hg9 hat9)
          | (go_at_call 54; refine (pick_any _ _ _ base l _ _ _ (by exact HIr.out) (by omega) (by omega)).mono ?_; rintro e w' ⟨rfl, rfl⟩))
      have HFIN : Hid (w9.ownsRow w.heap.size 91 3 (.slice (some ⟨g, 0, none⟩) (k + 1) cap) (k + 1) ((ms ++ [(x1, pickZ l (3 * (k : Int) + 2) 3, x2)]).flatMap matCells)) := by rw [Hid, List.flatMap_append]; simpa using HO9.out
      clear t1 t2 t3 t4 HO9
      go_wp2
      go_roundw
      case rel =>
        refine ⟨k + 1, ms ++ [(x1, pickZ l (3 * (k : Int) + 2) 3, x2)], by omega, by go_num, by simp [HR.out.1], fun x hx => ?_, HFIN.out, HR.out.2.2.2.1.keep HF9.out (by decide), HR.out.2.2.2.2.1.keep HF9.out (by decide), HR.out.2.2.2.2.2.trans (fr_below HF9.out hsz)⟩
        rcases List.mem_append.1 hx with hx | hx
        · exact HR.out.2.1 x hx
        · simp at hx; subst hx; exact HG.out
      case measure => simp [intOf]; omega
    · obtain ⟨A2, c2, hv2⟩ := own_form hown
      have HV := Lib.hid hv2
      clear hv2
      go_wp2_with (go_at_call 54; refine (pick_any _ _ _ base l _ _ _ HIr.out (by omega) (by omega)).mono ?_; rintro e w' ⟨rfl, rfl⟩)
      go_ret
      exact ⟨ms, A2, k, c2, congrArg Ending.returned HV.out, by have h := hown; rw [HV.out] at h; rw [hlen]; exact h, by omega, hgood, hbw⟩
end
section
open Go.RowKit FracM

theorem okU_in {u : U3} (h : okU u = true) : (-3 ≤ u.1 ∧ u.1 ≤ 3) ∧ (-3 ≤ u.2.1 ∧ u.2.1 ≤ 3) ∧ (-3 ≤ u.2.2 ∧ u.2.2 ≤ 3) := by
  simpa [okU, in3, and_assoc] using h
theorem sub_self (u : U3) : subU u u = u0 := by
  unfold subU u0; simp only [Int.sub_self]; rfl
theorem add_zero {u : U3} (h : okU u = true) : addU u0 u = u := by
  obtain ⟨h1, h2, h3⟩ := okU_in h
  obtain ⟨a, b, c⟩ := u
  simp only at h1 h2 h3
  unfold addU u0
  simp only [Int.zero_add]
  rw [W64_in (by omega) (by omega), W64_in (by omega) (by omega), W64_in (by omega) (by omega)]
end
end Go.Proofs.YthoibeajhdhdhaaGreatDoor
