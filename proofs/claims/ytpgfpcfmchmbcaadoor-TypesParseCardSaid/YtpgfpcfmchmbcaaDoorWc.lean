/- power of package types. -/
import Derived.Test.YtpgfpcfmchmbcaaDoorWb
set_option linter.unusedVariables false
set_option linter.unusedSimpArgs false
namespace Go.Proofs.YtpgfpcfmchmbcaaDoor
open Go.RowKit FracM

def PowRel (p : List UInt8) (i n : Int) (ok : Bool) : Prop := (ok = false ∧ powL p = none) ∨ (∃ k : Nat, k < 3 ∧ ok = true ∧ i = k ∧ 1 ≤ n ∧ n ≤ 3 ∧ powL p = some (k, n))
def RetPow (s : ByteArray) (w : World) (e : Ending) (w' : World) : Prop := ∃ (i n : Int) (ok : Bool), e = .returned (.tuple #[.int .i64 i, .int .i64 n, .bool ok]) ∧ PowRel s.data.toList i n ok ∧ Below w.heap.size w w'
theorem name_lt {l : List UInt8} {k : Nat} (h : nameIx l = some k) : k < 3 := by
  unfold nameIx at h
  split at h
  · cases h; omega
  · split at h
    · cases h; omega
    · split at h
      · cases h; omega
      · cases h
theorem pow_name {p nm ex : List UInt8} {fd : Bool} {n : Int} (hc : Lib.cut p [94] = (nm, ex, fd)) (he : expOf p = some n) (h1 : 1 ≤ n) (h3 : n ≤ 3) : PowRel p (ixI nm) n (decide (0 ≤ ixI nm)) := by
  unfold PowRel powL ixI
  rw [he, hc]
  cases hn : nameIx nm with
  | none => left; exact ⟨by decide, rfl⟩
  | some k => right; exact ⟨k, name_lt hn, by simp, rfl, h1, h3, rfl⟩
theorem pow_bad {p : List UInt8} (i n : Int) (he : expOf p = none) : PowRel p i n false := by
  left; refine ⟨rfl, ?_⟩; unfold powL; rw [he]
theorem cut_sz (s : ByteArray) {nm ex : List UInt8} {fd : Bool} (hc : Lib.cut s.data.toList [94] = (nm, ex, fd)) : nm.length ≤ s.size ∧ ex.length ≤ s.size := by
  have := cut_len s.data.toList [94]
  rw [hc, ssz] at this
  exact this
set_option maxHeartbeats 1000000 in
theorem power_any (s : ByteArray) (w : World) (hs : s.size ≤ 999) (hw : WordsW w) (hl : LibP w) : Calls Tryd.prog 15 #[.string s] w (RetPow s w) := by
  have HW := Box.mk (And.intro hw hl)
  obtain ⟨nm, ex, fd, hc⟩ : ∃ nm ex fd, Lib.cut s.data.toList [94] = (nm, ex, fd) := ⟨_, _, _, rfl⟩
  obtain ⟨hz1, hz2⟩ := cut_sz s hc
  have HC := Box.mk hc
  clear hw hl hc
  go_enter Tryd.func15, Tryd.ntmps15
  go_wp2_with fail
  refine (cut_any s _ hs HW.out.2).mono ?_
  rintro e w1 ⟨rfl, hb⟩
  rw [HC.out]
  have HB := Box.mk hb
  clear hb
  have HW1 := Box.mk (And.intro (HW.out.1.below HB.out) (HW.out.2.below HB.out))
  cases fd
  · have HE : Box (expOf s.data.toList = some 1) := ⟨by unfold expOf; rw [HC.out]; rfl⟩
    go_wp2_with fail
    refine (unitIx_any (bs nm) _ HW1.out.1).mono ?_
    rintro e w2 ⟨rfl, rfl⟩
    rw [bs_data]
    have HR := Box.mk (pow_name HC.out HE.out (by omega) (by omega))
    generalize ixI nm = r at *
    go_wp2_with fail
    exact bodyPost_ret (v := .tuple #[.int .i64 r, .int .i64 1, .bool (decide (0 ≤ r))]) (by simp [results, Tryd.results15, go_sem]) rfl ⟨_, _, _, rfl, HR.out, HB.out⟩
  · by_cases hv : ∃ v, Lib.atoiAll ex = .ok v
    · obtain ⟨v, hv⟩ := hv
      have HE : Box (expOf s.data.toList = if 2 ≤ v ∧ v ≤ 3 then some v else none) := ⟨by unfold expOf; rw [HC.out]; simp [hv]⟩
      have HV := Box.mk hv
      clear hv
      go_wp2_with fail
      refine (atoi_ok (v := v) (bs ex) _ (by rw [bs_size]; omega) (by rw [bs_data]; exact HV.out)).mono ?_
      rintro e w2 ⟨rfl, hb⟩
      have HB2 := Box.mk (bthen HB.out hb (Nat.le_refl _))
      clear hb HW1 HB
      have HW2 := Box.mk (And.intro (HW.out.1.below HB2.out) (HW.out.2.below HB2.out))
      by_cases h2 : v < 2
      · have HE2 : Box (expOf s.data.toList = none) := ⟨by rw [HE.out, if_neg (by omega)]⟩
        go_wp2_with fail
        exact bodyPost_ret (v := .tuple #[.int .i64 0, .int .i64 0, .bool false]) (by simp [results, Tryd.results15, go_sem]) rfl ⟨_, _, _, rfl, pow_bad _ _ HE2.out, HB2.out⟩
      · by_cases h3 : 3 < v
        · have HE2 : Box (expOf s.data.toList = none) := ⟨by rw [HE.out, if_neg (by omega)]⟩
          go_wp2_with fail
          exact bodyPost_ret (v := .tuple #[.int .i64 0, .int .i64 0, .bool false]) (by simp [results, Tryd.results15, go_sem]) rfl ⟨_, _, _, rfl, pow_bad _ _ HE2.out, HB2.out⟩
        · have HE2 : Box (expOf s.data.toList = some v) := ⟨by rw [HE.out, if_pos (by omega)]⟩
          go_wp2_with fail
          refine (unitIx_any (bs nm) _ HW2.out.1).mono ?_
          rintro e w3 ⟨rfl, rfl⟩
          rw [bs_data]
          have HR := Box.mk (pow_name HC.out HE2.out (by omega) (by omega))
          generalize ixI nm = r at *
          go_wp2_with fail
          exact bodyPost_ret (v := .tuple #[.int .i64 r, .int .i64 v, .bool (decide (0 ≤ r))]) (by simp [results, Tryd.results15, go_sem]) rfl ⟨_, _, _, rfl, HR.out, HB2.out⟩
    · have HE2 : Box (expOf s.data.toList = none) := ⟨by
        unfold expOf; rw [HC.out]
        simp only [if_true]
        cases h : Lib.atoiAll ex <;> first | rfl | exact absurd ⟨_, h⟩ hv⟩
      have HV := Box.mk hv
      clear hv
      go_wp2_with fail
      refine (atoi_bad (bs ex) _ (by rw [bs_size]; omega) (fun v h => HV.out ⟨v, by rw [bs_data] at h; exact h⟩) HW1.out.2).mono ?_
      rintro e w2 ⟨x, N, rfl, hb⟩
      have HB2 := Box.mk (bthen HB.out hb (Nat.le_refl _))
      clear hb HW1 HB
      go_wp2_with fail
      exact bodyPost_ret (v := .tuple #[.int .i64 0, .int .i64 0, .bool false]) (by simp [results, Tryd.results15, go_sem]) rfl ⟨_, _, _, rfl, pow_bad _ _ HE2.out, HB2.out⟩
end Go.Proofs.YtpgfpcfmchmbcaaDoor
