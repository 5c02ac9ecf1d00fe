/- silence.check, and names of the reference. -/
import Derived.Test.YtoafpajibeejlaaVm
set_option linter.unusedVariables false
set_option linter.unusedSimpArgs false
namespace Go.Proofs.Ytoafpajibeejlaa
open Go.RowKit

def numE (cl fr un cp tick : Int) (d : Bool) : Int :=
  if cl < 1 ∨ 3 < cl ∨ cp < 1 ∨ 100 < cp then 5 else if fr < tick ∨ un ≤ fr ∨ 1000 < un - fr ∨ 1048576 < un then 5 else if cl = 3 ∧ d = true then 16 else 0
def namesB (ms : List Mat) (ow se : ByteArray) : Bool := ms.all vmatB && (nameB ow && (se.toList.isEmpty || nameB se))
def soloB (ow se : ByteArray) : Bool := se.toList.isEmpty || se.toList == ow.toList
/-- the error of a silence that is to be opened -/
def checkE (ms : List Mat) (ow se : ByteArray) (cl fr un cp tick : Int) : Int :=
  if tick < 0 ∨ 1048576 < tick then 5 else if 8 < ms.length then 4 else if namesB ms ow se = false then 8 else numE cl fr un cp tick (soloB ow se)

theorem namesB_no {ms : List Mat} {ow se : ByteArray} {k : Nat} {x : Mat} (hk : ms[k]? = some x) (h : vmatB x = false) : namesB ms ow se = false := by
  unfold namesB
  rw [Bool.and_eq_false_iff]; left
  rw [List.all_eq_false]
  exact ⟨x, List.mem_of_getElem? hk, by simp [h]⟩
theorem all_next {ms : List Mat} {k : Nat} {x : Mat} (hk : ms[k]? = some x) (h : vmatB x = true) (h' : ∀ j y, ms[j]? = some y → j < k → vmatB y = true) : Hid (∀ j y, ms[j]? = some y → j < k + 1 → vmatB y = true) := by
  intro j y hj hlt
  rcases Nat.lt_or_ge j k with h1 | h1
  · exact h' j y hj h1
  · obtain rfl : j = k := by omega
    rw [hk] at hj; cases hj; exact h
theorem all_end {ms : List Mat} {k : Nat} (hk : ms.length ≤ k) (h' : ∀ j y, ms[j]? = some y → j < k → vmatB y = true) : ms.all vmatB = true := by
  rw [List.all_eq_true]
  intro x hx
  obtain ⟨j, hj, rfl⟩ := List.mem_iff_getElem.1 hx
  exact h' j _ (List.getElem?_eq_getElem hj) (by omega)
theorem namesB_eq {ms : List Mat} {ow se : ByteArray} (h : ms.all vmatB = true) : namesB ms ow se = (nameB ow && (se.toList.isEmpty || nameB se)) := by
  simp [namesB, h]


set_option maxHeartbeats 400000 in
theorem check_tick (id cl fr un cp hd : Int) (ow se : ByteArray) (A : Option Addr) (n c : Nat) (tick : Int) (ms : List Mat) (w : World) (h : tick < 0 ∨ 1048576 < tick) :
    Calls Try.prog 39 #[.agg #[.int .i64 id, .slice A n c, .string ow, .string se, .int .i64 cl, .int .i64 fr, .int .i64 un, .int .i64 cp, .int .i64 hd], .int .i64 tick] w fun e w' => e = .returned (.int .i64 (checkE ms ow se cl fr un cp tick)) ∧ Below w.heap.size w w' := by
  have E : Hid (checkE ms ow se cl fr un cp tick = 5) := if_pos h
  rcases h with h | h
  · go_enter Try.func39, Try.ntmps39
    go_wp2
    go_ret
    exact ⟨ret_int (by rw [E.out]), bel1 _ _⟩
  · go_enter Try.func39, Try.ntmps39
    go_wp2
    go_ret
    exact ⟨ret_int (by rw [E.out]), bel1 _ _⟩
theorem check_long (id cl fr un cp hd : Int) (ow se : ByteArray) (A : Option Addr) (n c : Nat) (tick : Int) (ms : List Mat) (w : World) (h1 : 0 ≤ tick) (h2 : tick ≤ 1048576) (hn : n = ms.length) (h : 8 < n) :
    Calls Try.prog 39 #[.agg #[.int .i64 id, .slice A n c, .string ow, .string se, .int .i64 cl, .int .i64 fr, .int .i64 un, .int .i64 cp, .int .i64 hd], .int .i64 tick] w fun e w' => e = .returned (.int .i64 (checkE ms ow se cl fr un cp tick)) ∧ Below w.heap.size w w' := by
  have E : Hid (checkE ms ow se cl fr un cp tick = 4) := by
    unfold checkE
    rw [if_neg (by omega), if_pos (by omega)]; exact rfl
  clear hn
  go_enter Try.func39, Try.ntmps39
  go_wp2
  go_ret
  exact ⟨ret_int (by rw [E.out]), bel1 _ _⟩


/-- what the loop of check knows -/
def ChkRel (w : World) (n : Nat) (ms : List Mat) (id cl fr un cp hd : Int) (ow se : ByteArray) (A : Option Addr) (c : Nat) (i : Value) (wr : World) : Prop :=
  ∃ k : Nat, k ≤ n ∧ i = .int .i64 k ∧ Below w.heap.size w wr ∧ w.heap.size < wr.heap.size ∧ (wr.cell? ⟨w.heap.size, 0, none⟩ = some (.int .i64 id) ∧ wr.cell? ⟨w.heap.size, 1, none⟩ = some (.slice A n c) ∧ wr.cell? ⟨w.heap.size, 2, none⟩ = some (.string ow) ∧ wr.cell? ⟨w.heap.size, 3, none⟩ = some (.string se) ∧ wr.cell? ⟨w.heap.size, 4, none⟩ = some (.int .i64 cl) ∧ wr.cell? ⟨w.heap.size, 5, none⟩ = some (.int .i64 fr) ∧ wr.cell? ⟨w.heap.size, 6, none⟩ = some (.int .i64 un) ∧ wr.cell? ⟨w.heap.size, 7, none⟩ = some (.int .i64 cp) ∧ wr.cell? ⟨w.heap.size, 8, none⟩ = some (.int .i64 hd)) ∧ Hid (∀ j y, ms[j]? = some y → j < k → vmatB y = true)

set_option maxHeartbeats 2000000 in
theorem check_body (id cl fr un cp hd : Int) (ow se : ByteArray) (A : Option Addr) (n c : Nat) (tick : Int) (ms : List Mat) (base : Nat) (w : World) (h1 : 0 ≤ tick) (h2 : tick ≤ 1048576) (h3 : n ≤ 8) (hm : Mats w base (.slice A n c) ms)
    (hb : ∀ x ∈ ms, x.1.size ≤ maxLen ∧ x.2.2.size ≤ maxLen) (hs1 : ow.size ≤ maxLen) (hs2 : se.size ≤ maxLen) (hu : un ≤ 9223372036854775807) :
    Calls Try.prog 39 #[.agg #[.int .i64 id, .slice A n c, .string ow, .string se, .int .i64 cl, .int .i64 fr, .int .i64 un, .int .i64 cp, .int .i64 hd], .int .i64 tick] w fun e w' => e = .returned (.int .i64 (checkE ms ow se cl fr un cp tick)) ∧ Below w.heap.size w w' := by
  have hn := hm.len.1
  have E : Hid (checkE ms ow se cl fr un cp tick = if namesB ms ow se = false then 8 else numE cl fr un cp tick (soloB ow se)) := by
    unfold checkE
    rw [if_neg (by omega), if_neg (by omega)]; exact rfl
  have HN := Lib.hid hn
  have HM := Lib.hid hm
  have HS := Lib.hid hb
  clear hn hm hb
  go_enter Try.func39, Try.ntmps39
  go_wp2
  go_loopw [20] (fun i wr => ChkRel w n ms id cl fr un cp hd ow se A c i wr) (fun i _ => n - (intOf i).toNat)
  case atStart => exact ⟨0, Nat.zero_le _, rfl, bel1 _ _, by simp, by simp, fun j y _ h => absurd h (by omega)⟩
  case round =>
    obtain ⟨k, hk, rfl, hbw, hsz, ⟨d0, d1, d2, d3, d4, d5, d6, d7, d8⟩, HK⟩ := hrel
    by_cases hlt : k < n
    · obtain ⟨x, hx⟩ : ∃ x, ms[k]? = some x := ⟨ms[k]'(by rw [← HN.out]; exact hlt), List.getElem?_eq_getElem _⟩
      obtain ⟨b, off, rfl, hb, c0, c1, c2⟩ := (HM.out.below hbw).at_ k x hx
      obtain ⟨hx1, hx2⟩ := HS.out x (List.mem_of_getElem? hx)
      have HX := Lib.hid hx; clear hx
      have HB := Lib.hid hbw; clear hbw
      obtain ⟨x0, x1, x2⟩ := x
      go_wp2_with (go_at_call 57; refine (vmat_any _ _ _ _ hx1 hx2).mono ?_; rintro e w2 ⟨rfl, hb2⟩; obtain ⟨hc2, hf2⟩ := bcell hb2; have hz2 := hb2.size; have HB2 : Hid (Below w.heap.size w w2 ∧ Below wr.heap.size wr w2) := ⟨(HB.out.alloc HB.out.size _).trans (hb2.mono (by simp; omega)), (bel1 _ _).trans (hb2.mono (by simp))⟩; clear hb2)
      · have q : (!vmatB (x0, x1, x2)) = true := by assumption
        go_ret
        exact ⟨ret_int (by rw [E.out, if_pos (namesB_no HX.out (by simpa using q))]), HB2.out.1⟩
      · have q : (!vmatB (x0, x1, x2)) = false := by assumption
        go_roundw
        case rel => exact ⟨k + 1, by omega, by go_num, HB2.out.1, by have := HB2.out.2.size; omega, ⟨bat HB2.out.2 hsz d0, bat HB2.out.2 hsz d1, bat HB2.out.2 hsz d2, bat HB2.out.2 hsz d3, bat HB2.out.2 hsz d4, bat HB2.out.2 hsz d5, bat HB2.out.2 hsz d6, bat HB2.out.2 hsz d7, bat HB2.out.2 hsz d8⟩, all_next HX.out (by simpa using q) HK.out⟩
        case measure => simp [intOf]; omega
    · have HA : Hid (namesB ms ow se = (nameB ow && (se.toList.isEmpty || nameB se))) := namesB_eq (all_end (by rw [← HN.out]; omega) HK.out)
      have HBr := Lib.hid hbw
      clear hbw
      by_cases ho : nameB ow = true
      · by_cases he : se.toList.isEmpty = true
        · have EN : Hid (checkE ms ow se cl fr un cp tick = numE cl fr un cp tick true) := by rw [Hid, E.out, HA.out, ho, he, soloB, he]; rfl
          clear E HA
          go_wp2_with (go_at_call 58; refine (name_any _ _ (by assumption)).mono ?_; rintro e w3 ⟨rfl, hb3⟩; obtain ⟨hc3, hf3⟩ := bcell hb3; have hz3 := hb3.size; have hz3' : w.heap.size < w3.heap.size := Nat.lt_of_lt_of_le hsz hz3; have HB3 : Hid (Below w.heap.size w w3) := HBr.out.trans (hb3.mono HBr.out.size); clear hb3)
          all_goals
            go_ret
            refine ⟨ret_int ?_, HB3.out⟩
            rw [EN.out]
            unfold numE
            first
              | (rw [if_pos (by omega)]; done)
              | (rw [if_neg (by omega), if_pos (by omega)]; done)
              | (rw [if_neg (by omega), if_neg (by omega), if_pos ⟨by omega, rfl⟩]; done)
              | (rw [if_neg (by omega), if_neg (by omega), if_neg (fun hh => by first | omega | cases hh.2)]; done)
        · have he' : se.toList.isEmpty = false := by simpa using he
          clear he
          by_cases hse : nameB se = true
          · by_cases hq : (se.toList == ow.toList) = true
            · have EN : Hid (checkE ms ow se cl fr un cp tick = numE cl fr un cp tick true) := by rw [Hid, E.out, HA.out, ho, he', hse, soloB, he', hq]; rfl
              clear E HA
              go_wp2_with (first | (go_at_call 58; refine (name_any _ _ (by assumption)).mono ?_; rintro e w3 ⟨rfl, hb3⟩; obtain ⟨hc3, hf3⟩ := bcell hb3; have hz3 := hb3.size; have hz3' : w.heap.size < w3.heap.size := Nat.lt_of_lt_of_le hsz hz3; have HB3 : Hid (Below w.heap.size w w3) := HBr.out.trans (hb3.mono HBr.out.size); clear hb3) | (go_at_call 58; refine (name_any _ _ (by assumption)).mono ?_; rintro e w4 ⟨rfl, hb4⟩; obtain ⟨hc4, hf4⟩ := bcell hb4; have hz4 := hb4.size; have HB4 : Hid (Below w.heap.size w w4) := HB3.out.trans (hb4.mono HB3.out.size); clear hb4))
              all_goals
                go_ret
                refine ⟨ret_int ?_, HB4.out⟩
                rw [EN.out]
                unfold numE
                first
                  | (rw [if_pos (by omega)]; done)
                  | (rw [if_neg (by omega), if_pos (by omega)]; done)
                  | (rw [if_neg (by omega), if_neg (by omega), if_pos ⟨by omega, rfl⟩]; done)
                  | (rw [if_neg (by omega), if_neg (by omega), if_neg (fun hh => by first | omega | cases hh.2)]; done)
            · have hq' : (se.toList == ow.toList) = false := by simpa using hq
              have EN : Hid (checkE ms ow se cl fr un cp tick = numE cl fr un cp tick false) := by rw [Hid, E.out, HA.out, ho, he', hse, soloB, he', hq']; rfl
              clear E HA hq
              go_wp2_with (first | (go_at_call 58; refine (name_any _ _ (by assumption)).mono ?_; rintro e w3 ⟨rfl, hb3⟩; obtain ⟨hc3, hf3⟩ := bcell hb3; have hz3 := hb3.size; have hz3' : w.heap.size < w3.heap.size := Nat.lt_of_lt_of_le hsz hz3; have HB3 : Hid (Below w.heap.size w w3) := HBr.out.trans (hb3.mono HBr.out.size); clear hb3) | (go_at_call 58; refine (name_any _ _ (by assumption)).mono ?_; rintro e w4 ⟨rfl, hb4⟩; obtain ⟨hc4, hf4⟩ := bcell hb4; have hz4 := hb4.size; have HB4 : Hid (Below w.heap.size w w4) := HB3.out.trans (hb4.mono HB3.out.size); clear hb4))
              all_goals
                go_ret
                refine ⟨ret_int ?_, HB4.out⟩
                rw [EN.out]
                unfold numE
                first
                  | (rw [if_pos (by omega)]; done)
                  | (rw [if_neg (by omega), if_pos (by omega)]; done)
                  | (rw [if_neg (by omega), if_neg (by omega), if_pos ⟨by omega, rfl⟩]; done)
                  | (rw [if_neg (by omega), if_neg (by omega), if_neg (fun hh => by first | omega | cases hh.2)]; done)
          · have hse' : nameB se = false := by simpa using hse
            clear hse
            go_wp2_with (first | (go_at_call 58; refine (name_any _ _ (by assumption)).mono ?_; rintro e w3 ⟨rfl, hb3⟩; obtain ⟨hc3, hf3⟩ := bcell hb3; have hz3 := hb3.size; have hz3' : w.heap.size < w3.heap.size := Nat.lt_of_lt_of_le hsz hz3; have HB3 : Hid (Below w.heap.size w w3) := HBr.out.trans (hb3.mono HBr.out.size); clear hb3) | (go_at_call 58; refine (name_any _ _ (by assumption)).mono ?_; rintro e w4 ⟨rfl, hb4⟩; obtain ⟨hc4, hf4⟩ := bcell hb4; have hz4 := hb4.size; have HB4 : Hid (Below w.heap.size w w4) := HB3.out.trans (hb4.mono HB3.out.size); clear hb4))
            go_ret
            exact ⟨ret_int (by rw [E.out, HA.out, ho, he', hse']; rfl), HB4.out⟩
      · have ho' : nameB ow = false := by simpa using ho
        clear ho
        go_wp2_with (go_at_call 58; refine (name_any _ _ (by assumption)).mono ?_; rintro e w3 ⟨rfl, hb3⟩; obtain ⟨hc3, hf3⟩ := bcell hb3; have hz3 := hb3.size; have hz3' : w.heap.size < w3.heap.size := Nat.lt_of_lt_of_le hsz hz3; have HB3 : Hid (Below w.heap.size w w3) := HBr.out.trans (hb3.mono HBr.out.size); clear hb3)
        go_ret
        exact ⟨ret_int (by rw [E.out, HA.out, ho']; rfl), HB3.out⟩

end Go.Proofs.Ytoafpajibeejlaa
