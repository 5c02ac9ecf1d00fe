/- ValidMatcher, of package labels and of its reference. -/
import Derived.Test.YtgomgoacponbkaaDoorBk
import Derived.Test.YtgomgoacponbkaaDoorMatch2
set_option linter.unusedVariables false
set_option linter.unusedSimpArgs false
namespace Go.Proofs.YtgomgoacponbkaaDoor
open Go.RowKit


set_option maxHeartbeats 1000000 in
theorem vmat_any (nm vl : ByteArray) (kd : Int) (w : World) (hs1 : nm.size ≤ maxLen) (hs2 : vl.size ≤ maxLen) :
    Calls Tryd.prog 85 #[.agg #[.string nm, .int .i64 kd, .string vl]] w fun e w' => e = .returned (.bool (vmatB (nm, kd, vl))) ∧ Below w.heap.size w w' := by
  by_cases hk : 0 ≤ kd ∧ kd ≤ 2
  · have hk3 : kd = 0 ∨ kd = 1 ∨ kd = 2 := by omega
    clear hk
    by_cases hn : nameB nm = true
    · rcases hk3 with rfl | rfl | rfl
      · have E : Hid (vmatB (nm, 0, vl) = valueB vl) := by simp [vmatB, hn, Hid]
        go_enter Tryd.func85, Tryd.ntmps85
        go_wp2_with (first | (go_at_call 83; refine (name_any _ _ hs1).mono ?_; rintro e w1 ⟨rfl, hb1⟩; obtain ⟨hc1, hf1⟩ := bcell hb1; have hz1 := hb1.size; have HB : Hid (Below w.heap.size w w1) := (bel1 _ _).trans (hb1.mono (by simp)); clear hb1) | (go_at_call 102; refine (value_any _ _ hs2).mono ?_; rintro e w2 ⟨rfl, hb2⟩; have HB2 : Hid (Below w.heap.size w w2) := HB.out.trans (hb2.mono HB.out.size); clear hb2))
        go_ret
        exact ⟨ret_bool (by rw [E.out]), HB2.out⟩
      · have E : Hid (vmatB (nm, 1, vl) = valueB vl) := by simp [vmatB, hn, Hid]
        go_enter Tryd.func85, Tryd.ntmps85
        go_wp2_with (first | (go_at_call 83; refine (name_any _ _ hs1).mono ?_; rintro e w1 ⟨rfl, hb1⟩; obtain ⟨hc1, hf1⟩ := bcell hb1; have hz1 := hb1.size; have HB : Hid (Below w.heap.size w w1) := (bel1 _ _).trans (hb1.mono (by simp)); clear hb1) | (go_at_call 102; refine (value_any _ _ hs2).mono ?_; rintro e w2 ⟨rfl, hb2⟩; have HB2 : Hid (Below w.heap.size w w2) := HB.out.trans (hb2.mono HB.out.size); clear hb2))
        go_ret
        exact ⟨ret_bool (by rw [E.out]), HB2.out⟩
      · have E : Hid (vmatB (nm, 2, vl) = valueB vl) := by simp [vmatB, hn, Hid]
        go_enter Tryd.func85, Tryd.ntmps85
        go_wp2_with (first | (go_at_call 83; refine (name_any _ _ hs1).mono ?_; rintro e w1 ⟨rfl, hb1⟩; obtain ⟨hc1, hf1⟩ := bcell hb1; have hz1 := hb1.size; have HB : Hid (Below w.heap.size w w1) := (bel1 _ _).trans (hb1.mono (by simp)); clear hb1) | (go_at_call 102; refine (value_any _ _ hs2).mono ?_; rintro e w2 ⟨rfl, hb2⟩; have HB2 : Hid (Below w.heap.size w w2) := HB.out.trans (hb2.mono HB.out.size); clear hb2))
        go_ret
        exact ⟨ret_bool (by rw [E.out]), HB2.out⟩
    · have hn' : nameB nm = false := by simpa using hn
      clear hn
      rcases hk3 with rfl | rfl | rfl
      · have E : Hid (vmatB (nm, 0, vl) = false) := by simp [vmatB, hn', Hid]
        go_enter Tryd.func85, Tryd.ntmps85
        go_wp2_with (first | (go_at_call 83; refine (name_any _ _ hs1).mono ?_; rintro e w1 ⟨rfl, hb1⟩; obtain ⟨hc1, hf1⟩ := bcell hb1; have hz1 := hb1.size; have HB : Hid (Below w.heap.size w w1) := (bel1 _ _).trans (hb1.mono (by simp)); clear hb1) | (go_at_call 102; refine (value_any _ _ hs2).mono ?_; rintro e w2 ⟨rfl, hb2⟩; have HB2 : Hid (Below w.heap.size w w2) := HB.out.trans (hb2.mono HB.out.size); clear hb2))
        go_ret
        exact ⟨ret_bool (by rw [E.out]), HB.out⟩
      · have E : Hid (vmatB (nm, 1, vl) = false) := by simp [vmatB, hn', Hid]
        go_enter Tryd.func85, Tryd.ntmps85
        go_wp2_with (first | (go_at_call 83; refine (name_any _ _ hs1).mono ?_; rintro e w1 ⟨rfl, hb1⟩; obtain ⟨hc1, hf1⟩ := bcell hb1; have hz1 := hb1.size; have HB : Hid (Below w.heap.size w w1) := (bel1 _ _).trans (hb1.mono (by simp)); clear hb1) | (go_at_call 102; refine (value_any _ _ hs2).mono ?_; rintro e w2 ⟨rfl, hb2⟩; have HB2 : Hid (Below w.heap.size w w2) := HB.out.trans (hb2.mono HB.out.size); clear hb2))
        go_ret
        exact ⟨ret_bool (by rw [E.out]), HB.out⟩
      · have E : Hid (vmatB (nm, 2, vl) = false) := by simp [vmatB, hn', Hid]
        go_enter Tryd.func85, Tryd.ntmps85
        go_wp2_with (first | (go_at_call 83; refine (name_any _ _ hs1).mono ?_; rintro e w1 ⟨rfl, hb1⟩; obtain ⟨hc1, hf1⟩ := bcell hb1; have hz1 := hb1.size; have HB : Hid (Below w.heap.size w w1) := (bel1 _ _).trans (hb1.mono (by simp)); clear hb1) | (go_at_call 102; refine (value_any _ _ hs2).mono ?_; rintro e w2 ⟨rfl, hb2⟩; have HB2 : Hid (Below w.heap.size w w2) := HB.out.trans (hb2.mono HB.out.size); clear hb2))
        go_ret
        exact ⟨ret_bool (by rw [E.out]), HB.out⟩
  · have E : Hid (vmatB (nm, kd, vl) = false) := by simp [vmatB, Hid]; omega
    have h0' : (kd == 0) = false := by simp; omega
    have h1' : (kd == 1) = false := by simp; omega
    have h2' : (kd == 2) = false := by simp; omega
    clear hk
    go_enter Tryd.func85, Tryd.ntmps85
    go_wp2_with (first | (go_at_call 83; refine (name_any _ _ hs1).mono ?_; rintro e w1 ⟨rfl, hb1⟩; obtain ⟨hc1, hf1⟩ := bcell hb1; have hz1 := hb1.size; have HB : Hid (Below w.heap.size w w1) := (bel1 _ _).trans (hb1.mono (by simp)); clear hb1) | (go_at_call 102; refine (value_any _ _ hs2).mono ?_; rintro e w2 ⟨rfl, hb2⟩; have HB2 : Hid (Below w.heap.size w w2) := HB.out.trans (hb2.mono HB.out.size); clear hb2))
    go_ret
    exact ⟨ret_bool (by rw [E.out]), bel1 _ _⟩

set_option maxHeartbeats 1000000 in
theorem rvmat_any (nm vl : ByteArray) (kd : Int) (w : World) (hs1 : nm.size ≤ maxLen) (hs2 : vl.size ≤ maxLen) :
    Calls Tryd.prog 97 #[.agg #[.string nm, .int .i64 kd, .string vl]] w fun e w' => e = .returned (.bool (vmatB (nm, kd, vl))) ∧ Below w.heap.size w w' := by
  by_cases hn : nameB nm = true
  · by_cases hk : 0 ≤ kd
    · by_cases hk2 : kd ≤ 2
      · have E : Hid (vmatB (nm, kd, vl) = valueB vl) := by simp [vmatB, hn, hk, hk2, Hid]
        go_enter Tryd.func97, Tryd.ntmps97
        go_wp2_with (first | (go_at_call 94; refine (rname_any _ _ hs1).mono ?_; rintro e w1 ⟨rfl, rfl⟩) | (go_at_call 108; refine (rvalue_any _ _ hs2).mono ?_; rintro e w2 ⟨rfl, rfl⟩))
        go_ret
        exact ⟨ret_bool (by rw [E.out]), bel1 _ _⟩
      · have E : Hid (vmatB (nm, kd, vl) = false) := by simp [vmatB, hk2, Hid]
        go_enter Tryd.func97, Tryd.ntmps97
        go_wp2_with (first | (go_at_call 94; refine (rname_any _ _ hs1).mono ?_; rintro e w1 ⟨rfl, rfl⟩) | (go_at_call 108; refine (rvalue_any _ _ hs2).mono ?_; rintro e w2 ⟨rfl, rfl⟩))
        go_ret
        exact ⟨ret_bool (by rw [E.out]), bel1 _ _⟩
    · have E : Hid (vmatB (nm, kd, vl) = false) := by simp [vmatB, hk, Hid]
      go_enter Tryd.func97, Tryd.ntmps97
      go_wp2_with (first | (go_at_call 94; refine (rname_any _ _ hs1).mono ?_; rintro e w1 ⟨rfl, rfl⟩) | (go_at_call 108; refine (rvalue_any _ _ hs2).mono ?_; rintro e w2 ⟨rfl, rfl⟩))
      go_ret
      exact ⟨ret_bool (by rw [E.out]), bel1 _ _⟩
  · have hn' : nameB nm = false := by simpa using hn
    clear hn
    have E : Hid (vmatB (nm, kd, vl) = false) := by simp [vmatB, hn', Hid]
    go_enter Tryd.func97, Tryd.ntmps97
    go_wp2_with (first | (go_at_call 94; refine (rname_any _ _ hs1).mono ?_; rintro e w1 ⟨rfl, rfl⟩) | (go_at_call 108; refine (rvalue_any _ _ hs2).mono ?_; rintro e w2 ⟨rfl, rfl⟩))
    go_ret
    exact ⟨ret_bool (by rw [E.out]), bel1 _ _⟩
end Go.Proofs.YtgomgoacponbkaaDoor
