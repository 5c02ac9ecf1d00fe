/- Silences: Lives, open, may change, Covers; ValidMatcher. -/
import Derived.Test.YtoafpajibeejlaaMatch2
set_option linter.unusedVariables false
set_option linter.unusedSimpArgs false
namespace Go.Proofs.Ytoafpajibeejlaa
open Go.RowKit

theorem bel1 (w : World) (o : Obj) : Below w.heap.size w (w.alloc o) := (Below.refl _ _).alloc (Nat.le_refl _) _
theorem bel2 (w : World) (o o' : Obj) : Below w.heap.size w ((w.alloc o).alloc o') := ((Below.refl _ _).alloc (Nat.le_refl _) _).alloc (by simp) _

def livesB (fr un tick : Int) : Bool := decide (fr ≤ tick) && decide (tick < un)
def openB (fr un tick : Int) : Bool := decide (tick < un) && decide (fr < un)
/-- may this person change a silence of these two -/
def mayB (ow se p : ByteArray) : Bool := (p.toList == ow.toList) || ((p.toList == se.toList) && !p.toList.isEmpty)
def coversB (cl fr un cp hd : Int) (ms : List Mat) (ls : List Lab) (cls tick : Int) : Bool :=
  livesB fr un tick && (decide (cls ≤ cl) && (decide (hd < cp) && matchB ls ms))


theorem lives_any (id cl fr un cp hd : Int) (ow se : ByteArray) (A : Option Addr) (n c : Nat) (tick : Int) (w : World) :
    Calls Try.prog 35 #[.agg #[.int .i64 id, .slice A n c, .string ow, .string se, .int .i64 cl, .int .i64 fr, .int .i64 un, .int .i64 cp, .int .i64 hd], .int .i64 tick] w fun e w' => e = .returned (.bool (livesB fr un tick)) ∧ Below w.heap.size w w' := by
  by_cases h1 : fr ≤ tick
  · by_cases h2 : tick < un
    · have E : Hid (livesB fr un tick = true) := by simp [livesB, h1, h2, Hid]
      go_enter Try.func35, Try.ntmps35
      go_wp2
      go_ret
      exact ⟨ret_bool (by rw [E.out]; try simp [h2]), bel1 _ _⟩
    · have E : Hid (livesB fr un tick = false) := by simp [livesB, h1, h2, Hid]
      go_enter Try.func35, Try.ntmps35
      go_wp2
      go_ret
      exact ⟨ret_bool (by rw [E.out]; try (simp; omega)), bel1 _ _⟩
  · have E : Hid (livesB fr un tick = false) := by simp [livesB, h1, Hid]
    go_enter Try.func35, Try.ntmps35
    go_wp2
    go_ret
    exact ⟨ret_bool (by rw [E.out]), bel1 _ _⟩

theorem rlives_any (id cl fr un cp hd : Int) (ow se : ByteArray) (A : Option Addr) (n c : Nat) (tick : Int) (w : World) :
    Calls Try.prog 37 #[.agg #[.int .i64 id, .slice A n c, .string ow, .string se, .int .i64 cl, .int .i64 fr, .int .i64 un, .int .i64 cp, .int .i64 hd], .int .i64 tick] w fun e w' => e = .returned (.bool (livesB fr un tick)) ∧ Below w.heap.size w w' := by
  by_cases h1 : fr ≤ tick
  · by_cases h2 : tick < un
    · have E : Hid (livesB fr un tick = true) := by simp [livesB, h1, h2, Hid]
      go_enter Try.func37, Try.ntmps37
      go_wp2
      go_ret
      exact ⟨ret_bool (by rw [E.out]; try simp [h2]), bel1 _ _⟩
    · have E : Hid (livesB fr un tick = false) := by simp [livesB, h1, h2, Hid]
      go_enter Try.func37, Try.ntmps37
      go_wp2
      go_ret
      exact ⟨ret_bool (by rw [E.out]; try (simp; omega)), bel1 _ _⟩
  · have E : Hid (livesB fr un tick = false) := by simp [livesB, h1, Hid]
    go_enter Try.func37, Try.ntmps37
    go_wp2
    go_ret
    exact ⟨ret_bool (by rw [E.out]), bel1 _ _⟩

theorem open_any (id cl fr un cp hd : Int) (ow se : ByteArray) (A : Option Addr) (n c : Nat) (tick : Int) (w : World) :
    Calls Try.prog 41 #[.agg #[.int .i64 id, .slice A n c, .string ow, .string se, .int .i64 cl, .int .i64 fr, .int .i64 un, .int .i64 cp, .int .i64 hd], .int .i64 tick] w fun e w' => e = .returned (.bool (openB fr un tick)) ∧ Below w.heap.size w w' := by
  by_cases h1 : tick < un
  · by_cases h2 : fr < un
    · have E : Hid (openB fr un tick = true) := by simp [openB, h1, h2, Hid]
      go_enter Try.func41, Try.ntmps41
      go_wp2
      go_ret
      exact ⟨ret_bool (by rw [E.out]; try simp [h2]), bel1 _ _⟩
    · have E : Hid (openB fr un tick = false) := by simp [openB, h1, h2, Hid]
      go_enter Try.func41, Try.ntmps41
      go_wp2
      go_ret
      exact ⟨ret_bool (by rw [E.out]; try (simp; omega)), bel1 _ _⟩
  · have E : Hid (openB fr un tick = false) := by simp [openB, h1, Hid]
    go_enter Try.func41, Try.ntmps41
    go_wp2
    go_ret
    exact ⟨ret_bool (by rw [E.out]), bel1 _ _⟩

theorem ropen_any (id cl fr un cp hd : Int) (ow se : ByteArray) (A : Option Addr) (n c : Nat) (tick : Int) (w : World) :
    Calls Try.prog 52 #[.agg #[.int .i64 id, .slice A n c, .string ow, .string se, .int .i64 cl, .int .i64 fr, .int .i64 un, .int .i64 cp, .int .i64 hd], .int .i64 tick] w fun e w' => e = .returned (.bool (openB fr un tick)) ∧ Below w.heap.size w w' := by
  by_cases h1 : tick < un
  · by_cases h2 : fr < un
    · have E : Hid (openB fr un tick = true) := by simp [openB, h1, h2, Hid]
      go_enter Try.func52, Try.ntmps52
      go_wp2
      go_ret
      exact ⟨ret_bool (by rw [E.out]; try simp [h2]), bel1 _ _⟩
    · have E : Hid (openB fr un tick = false) := by simp [openB, h1, h2, Hid]
      go_enter Try.func52, Try.ntmps52
      go_wp2
      go_ret
      exact ⟨ret_bool (by rw [E.out]; try (simp; omega)), bel1 _ _⟩
  · have E : Hid (openB fr un tick = false) := by simp [openB, h1, Hid]
    go_enter Try.func52, Try.ntmps52
    go_wp2
    go_ret
    exact ⟨ret_bool (by rw [E.out]), bel1 _ _⟩

theorem may_any (id cl fr un cp hd : Int) (ow se : ByteArray) (A : Option Addr) (n c : Nat) (p : ByteArray) (w : World) :
    Calls Try.prog 60 #[.agg #[.int .i64 id, .slice A n c, .string ow, .string se, .int .i64 cl, .int .i64 fr, .int .i64 un, .int .i64 cp, .int .i64 hd], .string p] w fun e w' => e = .returned (.bool (mayB ow se p)) ∧ Below w.heap.size w w' := by
  by_cases h1 : (p.toList == ow.toList) = true
  · have E : Hid (mayB ow se p = true) := by simp [mayB, h1, Hid]
    go_enter Try.func60, Try.ntmps60
    go_wp2
    go_ret
    exact ⟨ret_bool (by rw [E.out]), bel1 _ _⟩
  have h1' : (p.toList == ow.toList) = false := by simpa using h1
  clear h1
  by_cases h2 : (p.toList == se.toList) = true
  · by_cases h3 : p.toList.isEmpty = true
    · have E : Hid (mayB ow se p = false) := by simp only [mayB, h1', h2, h3, Hid]; rfl
      go_enter Try.func60, Try.ntmps60
      go_wp2
      go_ret
      exact ⟨ret_bool (by rw [E.out]; try simp [h3]), bel1 _ _⟩
    · have h3' : p.toList.isEmpty = false := by simpa using h3
      have E : Hid (mayB ow se p = true) := by simp only [mayB, h1', h2, h3', Hid]; rfl
      clear h3
      go_enter Try.func60, Try.ntmps60
      go_wp2
      go_ret
      exact ⟨ret_bool (by rw [E.out]; try simp [h3']), bel1 _ _⟩
  · have h2' : (p.toList == se.toList) = false := by simpa using h2
    clear h2
    have E : Hid (mayB ow se p = false) := by simp only [mayB, h1', h2', Hid]; rfl
    by_cases h3 : p.toList.isEmpty = true
    · go_enter Try.func60, Try.ntmps60
      go_wp2
      go_ret
      exact ⟨ret_bool (by rw [E.out]; try simp [h3]), bel1 _ _⟩
    · have h3' : p.toList.isEmpty = false := by simpa using h3
      clear h3
      go_enter Try.func60, Try.ntmps60
      go_wp2
      go_ret
      exact ⟨ret_bool (by rw [E.out]; try simp [h2', h3']), bel1 _ _⟩

theorem rmay_any (id cl fr un cp hd : Int) (ow se : ByteArray) (A : Option Addr) (n c : Nat) (p : ByteArray) (w : World) :
    Calls Try.prog 61 #[.agg #[.int .i64 id, .slice A n c, .string ow, .string se, .int .i64 cl, .int .i64 fr, .int .i64 un, .int .i64 cp, .int .i64 hd], .string p] w fun e w' => e = .returned (.bool (mayB ow se p)) ∧ Below w.heap.size w w' := by
  by_cases h1 : (p.toList == ow.toList) = true
  · have E : Hid (mayB ow se p = true) := by simp [mayB, h1, Hid]
    go_enter Try.func61, Try.ntmps61
    go_wp2
    go_ret
    exact ⟨ret_bool (by rw [E.out]), bel1 _ _⟩
  have h1' : (p.toList == ow.toList) = false := by simpa using h1
  clear h1
  by_cases h2 : (p.toList == se.toList) = true
  · by_cases h3 : p.toList.isEmpty = true
    · have E : Hid (mayB ow se p = false) := by simp only [mayB, h1', h2, h3, Hid]; rfl
      go_enter Try.func61, Try.ntmps61
      go_wp2
      go_ret
      exact ⟨ret_bool (by rw [E.out]; try simp [h3]), bel1 _ _⟩
    · have h3' : p.toList.isEmpty = false := by simpa using h3
      have E : Hid (mayB ow se p = true) := by simp only [mayB, h1', h2, h3', Hid]; rfl
      clear h3
      go_enter Try.func61, Try.ntmps61
      go_wp2
      go_ret
      exact ⟨ret_bool (by rw [E.out]; try simp [h3']), bel1 _ _⟩
  · have h2' : (p.toList == se.toList) = false := by simpa using h2
    clear h2
    have E : Hid (mayB ow se p = false) := by simp only [mayB, h1', h2', Hid]; rfl
    by_cases h3 : p.toList.isEmpty = true
    · go_enter Try.func61, Try.ntmps61
      go_wp2
      go_ret
      exact ⟨ret_bool (by rw [E.out]; try simp [h3]), bel1 _ _⟩
    · have h3' : p.toList.isEmpty = false := by simpa using h3
      clear h3
      go_enter Try.func61, Try.ntmps61
      go_wp2
      go_ret
      exact ⟨ret_bool (by rw [E.out]; try simp [h2', h3']), bel1 _ _⟩

set_option maxHeartbeats 400000 in
theorem covers_any (id cl fr un cp hd : Int) (ow se : ByteArray) (A : Option Addr) (n c : Nat) (kd ve st sn : Int) (ru to_ : ByteArray) (A' : Option Addr) (n' c' : Nat) (base : Nat) (ms : List Mat) (ls : List Lab) (cls tick : Int) (w : World)
    (hm : Mats w base (.slice A n c) ms) (hl : Labs w base (.slice A' n' c') ls) :
    Calls Try.prog 17 #[.agg #[.int .i64 id, .slice A n c, .string ow, .string se, .int .i64 cl, .int .i64 fr, .int .i64 un, .int .i64 cp, .int .i64 hd], .agg #[.int .i64 kd, .string ru, .int .i64 ve, .slice A' n' c', .int .i64 st, .int .i64 sn, .string to_], .int .i64 cls, .int .i64 tick] w fun e w' => e = .returned (.bool (coversB cl fr un cp hd ms ls cls tick)) ∧ Below w.heap.size w w' := by
  have HM := Lib.hid hm; have HL := Lib.hid hl; clear hm hl
  by_cases h1 : livesB fr un tick = true
  · by_cases h2 : cls ≤ cl
    · by_cases h3 : hd < cp
      · have E : Hid (coversB cl fr un cp hd ms ls cls tick = matchB ls ms) := by simp [coversB, h1, h2, h3, Hid]
        go_enter Try.func17, Try.ntmps17
        go_wp2_with (first | (go_at_call 35; refine (lives_any _ _ _ _ _ _ _ _ _ _ _ _ _).mono ?_; rintro e w1 ⟨rfl, hb1⟩; obtain ⟨hc1, hf1⟩ := bcell hb1; have hz1 := hb1.size; have HB : Hid (Below w.heap.size w w1) := (bel2 _ _ _).trans (hb1.mono (by simp; omega)); clear hb1) | (go_at_call 36; refine (match_any _ _ _ _ _ _ base ls ms _ (by exact HL.out.below HB.out) (by exact HM.out.below HB.out)).mono ?_; rintro e w2 ⟨rfl, hb2⟩; have HB2 : Hid (Below w.heap.size w w2) := HB.out.trans (hb2.mono HB.out.size); clear hb2))
        go_ret
        exact ⟨ret_bool (by rw [E.out]), HB2.out⟩
      · have E : Hid (coversB cl fr un cp hd ms ls cls tick = false) := by simp [coversB, h3, Hid]
        go_enter Try.func17, Try.ntmps17
        go_wp2_with (first | (go_at_call 35; refine (lives_any _ _ _ _ _ _ _ _ _ _ _ _ _).mono ?_; rintro e w1 ⟨rfl, hb1⟩; obtain ⟨hc1, hf1⟩ := bcell hb1; have hz1 := hb1.size; have HB : Hid (Below w.heap.size w w1) := (bel2 _ _ _).trans (hb1.mono (by simp; omega)); clear hb1) | (go_at_call 36; refine (match_any _ _ _ _ _ _ base ls ms _ (by exact HL.out.below HB.out) (by exact HM.out.below HB.out)).mono ?_; rintro e w2 ⟨rfl, hb2⟩; have HB2 : Hid (Below w.heap.size w w2) := HB.out.trans (hb2.mono HB.out.size); clear hb2))
        go_ret
        exact ⟨ret_bool (by rw [E.out]), HB.out⟩
    · have E : Hid (coversB cl fr un cp hd ms ls cls tick = false) := by simp [coversB, h2, Hid]
      go_enter Try.func17, Try.ntmps17
      go_wp2_with (first | (go_at_call 35; refine (lives_any _ _ _ _ _ _ _ _ _ _ _ _ _).mono ?_; rintro e w1 ⟨rfl, hb1⟩; obtain ⟨hc1, hf1⟩ := bcell hb1; have hz1 := hb1.size; have HB : Hid (Below w.heap.size w w1) := (bel2 _ _ _).trans (hb1.mono (by simp; omega)); clear hb1) | (go_at_call 36; refine (match_any _ _ _ _ _ _ base ls ms _ (by exact HL.out.below HB.out) (by exact HM.out.below HB.out)).mono ?_; rintro e w2 ⟨rfl, hb2⟩; have HB2 : Hid (Below w.heap.size w w2) := HB.out.trans (hb2.mono HB.out.size); clear hb2))
      go_ret
      exact ⟨ret_bool (by rw [E.out]), HB.out⟩
  · have h1' : livesB fr un tick = false := by simpa using h1
    clear h1
    have E : Hid (coversB cl fr un cp hd ms ls cls tick = false) := by simp [coversB, h1', Hid]
    go_enter Try.func17, Try.ntmps17
    go_wp2_with (first | (go_at_call 35; refine (lives_any _ _ _ _ _ _ _ _ _ _ _ _ _).mono ?_; rintro e w1 ⟨rfl, hb1⟩; obtain ⟨hc1, hf1⟩ := bcell hb1; have hz1 := hb1.size; have HB : Hid (Below w.heap.size w w1) := (bel2 _ _ _).trans (hb1.mono (by simp; omega)); clear hb1) | (go_at_call 36; refine (match_any _ _ _ _ _ _ base ls ms _ (by exact HL.out.below HB.out) (by exact HM.out.below HB.out)).mono ?_; rintro e w2 ⟨rfl, hb2⟩; have HB2 : Hid (Below w.heap.size w w2) := HB.out.trans (hb2.mono HB.out.size); clear hb2))
    go_ret
    exact ⟨ret_bool (by rw [E.out]), HB.out⟩

set_option maxHeartbeats 400000 in
theorem rcovers_any (id cl fr un cp hd : Int) (ow se : ByteArray) (A : Option Addr) (n c : Nat) (kd ve st sn : Int) (ru to_ : ByteArray) (A' : Option Addr) (n' c' : Nat) (base : Nat) (ms : List Mat) (ls : List Lab) (cls tick : Int) (w : World)
    (hm : Mats w base (.slice A n c) ms) (hl : Labs w base (.slice A' n' c') ls) :
    Calls Try.prog 18 #[.agg #[.int .i64 id, .slice A n c, .string ow, .string se, .int .i64 cl, .int .i64 fr, .int .i64 un, .int .i64 cp, .int .i64 hd], .agg #[.int .i64 kd, .string ru, .int .i64 ve, .slice A' n' c', .int .i64 st, .int .i64 sn, .string to_], .int .i64 cls, .int .i64 tick] w fun e w' => e = .returned (.bool (coversB cl fr un cp hd ms ls cls tick)) ∧ Below w.heap.size w w' := by
  have HM := Lib.hid hm; have HL := Lib.hid hl; clear hm hl
  by_cases h1 : livesB fr un tick = true
  · by_cases h2 : cls ≤ cl
    · by_cases h3 : hd < cp
      · have E : Hid (coversB cl fr un cp hd ms ls cls tick = matchB ls ms) := by simp [coversB, h1, h2, h3, Hid]
        go_enter Try.func18, Try.ntmps18
        go_wp2_with (first | (go_at_call 37; refine (rlives_any _ _ _ _ _ _ _ _ _ _ _ _ _).mono ?_; rintro e w1 ⟨rfl, hb1⟩; obtain ⟨hc1, hf1⟩ := bcell hb1; have hz1 := hb1.size; have HB : Hid (Below w.heap.size w w1) := (bel2 _ _ _).trans (hb1.mono (by simp; omega)); clear hb1) | (go_at_call 38; refine (rmatch_any _ _ _ _ _ _ base ls ms _ (by exact HL.out.below HB.out) (by exact HM.out.below HB.out)).mono ?_; rintro e w2 ⟨rfl, hb2⟩; have HB2 : Hid (Below w.heap.size w w2) := HB.out.trans (hb2.mono HB.out.size); clear hb2))
        go_ret
        exact ⟨ret_bool (by rw [E.out]), HB2.out⟩
      · have E : Hid (coversB cl fr un cp hd ms ls cls tick = false) := by simp [coversB, h3, Hid]
        go_enter Try.func18, Try.ntmps18
        go_wp2_with (first | (go_at_call 37; refine (rlives_any _ _ _ _ _ _ _ _ _ _ _ _ _).mono ?_; rintro e w1 ⟨rfl, hb1⟩; obtain ⟨hc1, hf1⟩ := bcell hb1; have hz1 := hb1.size; have HB : Hid (Below w.heap.size w w1) := (bel2 _ _ _).trans (hb1.mono (by simp; omega)); clear hb1) | (go_at_call 38; refine (rmatch_any _ _ _ _ _ _ base ls ms _ (by exact HL.out.below HB.out) (by exact HM.out.below HB.out)).mono ?_; rintro e w2 ⟨rfl, hb2⟩; have HB2 : Hid (Below w.heap.size w w2) := HB.out.trans (hb2.mono HB.out.size); clear hb2))
        go_ret
        exact ⟨ret_bool (by rw [E.out]), HB.out⟩
    · have E : Hid (coversB cl fr un cp hd ms ls cls tick = false) := by simp [coversB, h2, Hid]
      go_enter Try.func18, Try.ntmps18
      go_wp2_with (first | (go_at_call 37; refine (rlives_any _ _ _ _ _ _ _ _ _ _ _ _ _).mono ?_; rintro e w1 ⟨rfl, hb1⟩; obtain ⟨hc1, hf1⟩ := bcell hb1; have hz1 := hb1.size; have HB : Hid (Below w.heap.size w w1) := (bel2 _ _ _).trans (hb1.mono (by simp; omega)); clear hb1) | (go_at_call 38; refine (rmatch_any _ _ _ _ _ _ base ls ms _ (by exact HL.out.below HB.out) (by exact HM.out.below HB.out)).mono ?_; rintro e w2 ⟨rfl, hb2⟩; have HB2 : Hid (Below w.heap.size w w2) := HB.out.trans (hb2.mono HB.out.size); clear hb2))
      go_ret
      exact ⟨ret_bool (by rw [E.out]), HB.out⟩
  · have h1' : livesB fr un tick = false := by simpa using h1
    clear h1
    have E : Hid (coversB cl fr un cp hd ms ls cls tick = false) := by simp [coversB, h1', Hid]
    go_enter Try.func18, Try.ntmps18
    go_wp2_with (first | (go_at_call 37; refine (rlives_any _ _ _ _ _ _ _ _ _ _ _ _ _).mono ?_; rintro e w1 ⟨rfl, hb1⟩; obtain ⟨hc1, hf1⟩ := bcell hb1; have hz1 := hb1.size; have HB : Hid (Below w.heap.size w w1) := (bel2 _ _ _).trans (hb1.mono (by simp; omega)); clear hb1) | (go_at_call 38; refine (rmatch_any _ _ _ _ _ _ base ls ms _ (by exact HL.out.below HB.out) (by exact HM.out.below HB.out)).mono ?_; rintro e w2 ⟨rfl, hb2⟩; have HB2 : Hid (Below w.heap.size w w2) := HB.out.trans (hb2.mono HB.out.size); clear hb2))
    go_ret
    exact ⟨ret_bool (by rw [E.out]), HB.out⟩
end Go.Proofs.Ytoafpajibeejlaa
