/- names of the reference. -/
import Derived.Test.YtoafpajibeejlaaSame
set_option linter.unusedVariables false
set_option linter.unusedSimpArgs false
namespace Go.Proofs.Ytoafpajibeejlaa
open Go.RowKit

def RnRel (w : World) (n : Nat) (ms : List Mat) (cs : Array Value) (i : Value) (wr : World) : Prop :=
  ∃ k : Nat, k ≤ n ∧ i = .int .i64 k ∧ Below w.heap.size w wr ∧ Blk wr w.heap.size 24 cs ∧ ∀ j y, ms[j]? = some y → j < k → vmatB y = true

set_option maxHeartbeats 1000000 in
theorem rnames_any (id cl fr un cp hd : Int) (ow se : ByteArray) (A : Option Addr) (n c : Nat) (ms : List Mat) (base : Nat) (w : World) (hm : Mats w base (.slice A n c) ms)
    (hb : ∀ x ∈ ms, x.1.size ≤ maxLen ∧ x.2.2.size ≤ maxLen) (hs1 : ow.size ≤ maxLen) (hs2 : se.size ≤ maxLen) :
    Calls Try.prog 51 #[.agg #[.int .i64 id, .slice A n c, .string ow, .string se, .int .i64 cl, .int .i64 fr, .int .i64 un, .int .i64 cp, .int .i64 hd]] w fun e w' => e = .returned (.bool (namesB ms ow se)) ∧ Below w.heap.size w w' := by
  have hn := hm.len.1
  have hn2 := hm.len.2
  have HN := Lib.hid hn
  have HM := Lib.hid hm
  have HS := Lib.hid hb
  clear hn hm hb
  go_enter Try.func51, Try.ntmps51
  go_wp2
  go_loopw [3] (fun i wr => RnRel w n ms #[.int .i64 id, .slice A n c, .string ow, .string se, .int .i64 cl, .int .i64 fr, .int .i64 un, .int .i64 cp, .int .i64 hd] i wr) (fun i _ => n - (intOf i).toNat)
  case atStart => exact ⟨0, Nat.zero_le _, rfl, bel1 _ _, Blk.new _ _ _, fun j y _ h => absurd h (by omega)⟩
  case round =>
    obtain ⟨k, hk, rfl, hbw, hbl, hall⟩ := hrel
    obtain ⟨d0, d1, d2, d3, d4, d5, d6, d7, d8⟩ := hbl.nine
    have hsz := hbw.size
    have HALL := Lib.hid hall
    have HBL := Lib.hid hbl
    clear hall hbl
    by_cases hlt : k < n
    · obtain ⟨x, hx⟩ : ∃ x, ms[k]? = some x := ⟨ms[k]'(by rw [← HN.out]; exact hlt), List.getElem?_eq_getElem _⟩
      obtain ⟨b, off, rfl, hb, c0, c1, c2⟩ := (HM.out.below hbw).at_ k x hx
      obtain ⟨hx1, hx2⟩ := HS.out x (List.mem_of_getElem? hx)
      have HX := Lib.hid hx; clear hx
      have HB := Lib.hid hbw; clear hbw
      obtain ⟨x0, x1, x2⟩ := x
      go_wp2_with (go_at_call 62; refine (rvmat_any _ _ _ _ hx1 hx2).mono ?_; rintro e w2 ⟨rfl, hb2⟩; have HB2 := Lib.hid hb2; clear hb2)
      · have q : (!vmatB (x0, x1, x2)) = true := by assumption
        go_ret
        exact ⟨ret_bool (by rw [namesB_no HX.out (by simpa using q)]), HB.out.trans (HB2.out.mono hsz)⟩
      · have q : (!vmatB (x0, x1, x2)) = false := by assumption
        go_roundw
        case rel => exact ⟨k + 1, by omega, by go_num, HB.out.trans (HB2.out.mono hsz), HBL.out.below HB2.out, all_next HX.out (by simpa using q) HALL.out⟩
        case measure => simp [intOf]; omega
    · have HA : Hid (namesB ms ow se = (nameB ow && (se.toList.isEmpty || nameB se))) := namesB_eq (all_end (by rw [← HN.out]; omega) HALL.out)
      have HB := Lib.hid hbw
      clear hbw
      by_cases ho : nameB ow = true
      · by_cases he : se.toList.isEmpty = true
        · go_wp2_with (go_at_call 63; refine (rname_any _ _ (by assumption)).mono ?_; rintro e w3 ⟨rfl, rfl⟩)
          go_ret
          exact ⟨ret_bool (by rw [HA.out, ho, he]; rfl), HB.out⟩
        · have he' : se.toList.isEmpty = false := by simpa using he
          clear he
          go_wp2_with (go_at_call 63; refine (rname_any _ _ (by assumption)).mono ?_; rintro e w3 ⟨rfl, rfl⟩)
          go_ret
          exact ⟨ret_bool (by rw [HA.out, ho, he']; rfl), HB.out⟩
      · have ho' : nameB ow = false := by simpa using ho
        clear ho
        go_wp2_with (go_at_call 63; refine (rname_any _ _ (by assumption)).mono ?_; rintro e w3 ⟨rfl, rfl⟩)
        go_ret
        exact ⟨ret_bool (by rw [HA.out, ho']; rfl), HB.out⟩
end Go.Proofs.Ytoafpajibeejlaa
