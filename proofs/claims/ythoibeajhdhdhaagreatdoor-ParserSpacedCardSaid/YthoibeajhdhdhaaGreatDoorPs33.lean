/- Contracts, packed: Oa. -/
import Derived.Test.YthoibeajhdhdhaaGreatDoorPs1
import Derived.Test.YthoibeajhdhdhaaGreatDoorPs10
import Derived.Test.YthoibeajhdhdhaaGreatDoorPs12
import Derived.Test.YthoibeajhdhdhaaGreatDoorPs32
import Derived.Deep.CutBlock
set_option linter.unusedVariables false
set_option linter.unusedSimpArgs false
namespace Go.Proofs.YthoibeajhdhdhaaGreatDoor
section
open Go.RowKit
theorem rletter_any (c : UInt8) (w : World) : Calls Tryz.prog 71 #[.int .u8 (c.toNat : Int)] w fun e w' => e = .returned (.bool (letB c)) ∧ w = w' := by
 obtain ⟨x, hx⟩ : ∃ x, c.toNat = x := ⟨_, rfl⟩
 have e : letB c = (decide (97 ≤ x) && decide (x ≤ 122)) := by unfold letB; rw [hx]
 rw [e, hx]
 clear e hx
 by_cases h : 97 ≤ x
 ·by_cases h2 : x ≤ 122
  ·have E := Lib.hid (show (decide (97 ≤ x) && decide (x ≤ 122)) = true by simp [h, h2])
   go_enter Tryz.func71, Tryz.ntmps71
   go_wp2
   go_ret
   exact ⟨ret_bool (by first | rfl | (rw [E.out]; try (simp; try omega))), rfl⟩
  ·have E := Lib.hid (show (decide (97 ≤ x) && decide (x ≤ 122)) = false by simp [h2])
   go_enter Tryz.func71, Tryz.ntmps71
   go_wp2
   go_ret
   exact ⟨ret_bool (by first | rfl | (rw [E.out]; try (simp; try omega))), rfl⟩
 ·have E := Lib.hid (show (decide (97 ≤ x) && decide (x ≤ 122)) = false by simp [h])
  go_enter Tryz.func71, Tryz.ntmps71
  go_wp2
  go_ret
  exact ⟨ret_bool (by first | rfl | (rw [E.out]; try (simp; try omega))), rfl⟩
theorem rdigit_any (c : UInt8) (w : World) : Calls Tryz.prog 73 #[.int .u8 (c.toNat : Int)] w fun e w' => e = .returned (.bool (digB c)) ∧ w = w' := by
 obtain ⟨x, hx⟩ : ∃ x, c.toNat = x := ⟨_, rfl⟩
 have e : digB c = (decide (48 ≤ x) && decide (x ≤ 57)) := by unfold digB; rw [hx]
 rw [e, hx]
 clear e hx
 by_cases h : 48 ≤ x
 ·by_cases h2 : x ≤ 57
  ·have E := Lib.hid (show (decide (48 ≤ x) && decide (x ≤ 57)) = true by simp [h, h2])
   go_enter Tryz.func73, Tryz.ntmps73
   go_wp2
   go_ret
   exact ⟨ret_bool (by first | rfl | (rw [E.out]; try (simp; try omega))), rfl⟩
  ·have E := Lib.hid (show (decide (48 ≤ x) && decide (x ≤ 57)) = false by simp [h2])
   go_enter Tryz.func73, Tryz.ntmps73
   go_wp2
   go_ret
   exact ⟨ret_bool (by first | rfl | (rw [E.out]; try (simp; try omega))), rfl⟩
 ·have E := Lib.hid (show (decide (48 ≤ x) && decide (x ≤ 57)) = false by simp [h])
  go_enter Tryz.func73, Tryz.ntmps73
  go_wp2
  go_ret
  exact ⟨ret_bool (by first | rfl | (rw [E.out]; try (simp; try omega))), rfl⟩
set_option maxHeartbeats 400000 in
theorem rwhite_any (c : UInt8) (w : World) : Calls Tryz.prog 70 #[.int .u8 (c.toNat : Int)] w fun e w' => e = .returned (.bool (spcB c)) ∧ w = w' := by
 obtain ⟨x, hx⟩ : ∃ x, c.toNat = x := ⟨_, rfl⟩
 have e : spcB c = (decide (x = 9) || decide (x = 10) || decide (x = 13) || decide (x = 32)) := by unfold spcB; rw [hx]; rfl
 rw [e, hx]
 clear e hx
 by_cases h1 : x = 9
 ·subst h1
  go_enter Tryz.func70, Tryz.ntmps70
  go_wp2
  go_ret
  exact ⟨rfl, rfl⟩
 by_cases h2 : x = 10
 ·subst h2
  go_enter Tryz.func70, Tryz.ntmps70
  go_wp2
  go_ret
  exact ⟨rfl, rfl⟩
 by_cases h3 : x = 13
 ·subst h3
  go_enter Tryz.func70, Tryz.ntmps70
  go_wp2
  go_ret
  exact ⟨rfl, rfl⟩
 by_cases h4 : x = 32
 ·subst h4
  go_enter Tryz.func70, Tryz.ntmps70
  go_wp2
  go_ret
  exact ⟨rfl, rfl⟩
 have E := Lib.hid (show (decide (x = 9) || decide (x = 10) || decide (x = 13) || decide (x = 32)) = false by simp [h1, h2, h3, h4])
 have g1 : ((x : Int) == 9) = false := by simp; omega
 have g2 : ((x : Int) == 10) = false := by simp; omega
 have g3 : ((x : Int) == 13) = false := by simp; omega
 have g4 : ((x : Int) == 32) = false := by simp; omega
 clear h1 h2 h3 h4
 go_enter Tryz.func70, Tryz.ntmps70
 go_wp2
 go_ret
 exact ⟨ret_bool E.out.symm, rfl⟩
set_option maxHeartbeats 1000000 in
theorem rword_any (s : ByteArray) (k0 : Nat) (w : World) (hk : k0 ≤ s.size) (hs : s.size ≤ 4000) :
  Calls Tryz.prog 72 #[.string s, .int .i64 k0] w fun e w' => e = .returned (.int .i64 ((k0 + twN wrdB s k0 : Nat) : Int)) ∧ w = w' := by
 obtain ⟨en, HE⟩ : ∃ en, Box (k0 + twN wrdB s k0 = en) := ⟨_, ⟨rfl⟩⟩
 rw [HE.out]
 go_enter Tryz.func72, Tryz.ntmps72
 go_wp2_with fail
 go_loop [1] (fun v => ∃ k : Nat, v = .int .i64 k ∧ k ≤ s.size ∧ Hid (k + twN wrdB s k = en)) (fun v => s.size - (intOf v).toNat)
 case atStart => exact ⟨k0, rfl, hk, HE.out⟩
 case round =>
  obtain ⟨k, rfl, hk2, HK⟩ := hrel
  by_cases hlt : k < s.size
  ·have hlt2 : (k : Int) < (s.size : Int) := by omega
   obtain ⟨a, ha⟩ : ∃ a, letB s[k] = a := ⟨_, rfl⟩
   obtain ⟨b, hb⟩ : ∃ b, digB s[k] = b := ⟨_, rfl⟩
   obtain ⟨d, hd⟩ : ∃ d, (s[k].toNat == 95) = d := ⟨_, rfl⟩
   have e : wrdB s[k] = (a || b || d) := by unfold wrdB; rw [ha, hb, hd]
   have hd2 : ((s[k].toNat : Int) == 95) = d := by rw [← hd]; rw [Bool.eq_iff_iff, beq_iff_eq, beq_iff_eq]; omega
   have HA : Box (∀ w, Calls Tryz.prog 71 #[.int .u8 (s[k].toNat : Int)] w fun e w' => e = .returned (.bool a) ∧ w = w') := ⟨fun w => by rw [← ha]; exact rletter_any _ w⟩
   have HB : Box (∀ w, Calls Tryz.prog 73 #[.int .u8 (s[k].toNat : Int)] w fun e w' => e = .returned (.bool b) ∧ w = w') := ⟨fun w => by rw [← hb]; exact rdigit_any _ w⟩
   obtain ⟨z, hz⟩ : ∃ z, (a || b || d) = z := ⟨_, rfl⟩
   have HN : Box ((z = false → k = en) ∧ (z = true → k + 1 + twN wrdB s (k + 1) = en)) := ⟨by
    constructor
    ·rintro rfl
     have := HK.out; rw [twN_stop hlt (e.trans hz)] at this; exact this
    ·rintro rfl
     have h5 := HK.out; rw [twN_step hlt (e.trans hz)] at h5; omega⟩
   have HZ := Box.mk hz
   clear e ha hb hd hz
   cases a
   case' true => have hzt : z = true := by simpa using HZ.out.symm
   case' false => cases b
   case' false.true => have hzt : z = true := by simpa using HZ.out.symm
   case' false.false => cases d
   case' false.false.true => have hzt : z = true := by simpa using HZ.out.symm
   case' false.false.false => have hzt : z = false := by simpa using HZ.out.symm
   all_goals
    have HF := Box.mk hzt
    clear hzt
    go_wp2_with (first
     | (go_at_call 71; (with_reducible refine (HA.out _).mono ?_); rintro e w' ⟨rfl, rfl⟩)
     | (go_at_call 73; (with_reducible refine (HB.out _).mono ?_); rintro e w' ⟨rfl, rfl⟩))
    first
     | (go_round; case rel => exact ⟨k + 1, by go_num, by omega, HN.out.2 HF.out⟩; case measure => (simp [intOf]; omega))
     | (go_ret; exact ⟨ret_int (by rw [HN.out.1 HF.out]), rfl⟩)
     | (refine ⟨⟨k + 1, by go_num, by omega, HN.out.2 HF.out⟩, ?_⟩; simp [intOf]; omega)
  ·have hlt2 : ¬ (k : Int) < (s.size : Int) := by omega
   have HN : Hid (k = en) := by have := HK.out; rw [twN_end (by omega)] at this; exact this
   go_wp2_with fail
   go_ret
   exact ⟨ret_int (by rw [HN.out]), rfl⟩
set_option maxHeartbeats 1000000 in
theorem rnumber_any (s : ByteArray) (i : Nat) (w : World) (hi : i ≤ s.size) (hs : s.size ≤ 4000) :
  Calls Tryz.prog 74 #[.string s, .int .i64 i] w fun e w' => e = .returned (.tuple #[.int .i64 ((i + twN digB s i : Nat) : Int), .int .i64 (numV 0 ((s.data.toList.drop i).takeWhile digB))]) ∧ w = w' := by
 obtain ⟨en, HE⟩ : ∃ en, Box (i + twN digB s i = en) := ⟨_, ⟨rfl⟩⟩
 obtain ⟨V, HV⟩ : ∃ V, Box (numV 0 ((s.data.toList.drop i).takeWhile digB) = V) := ⟨_, ⟨rfl⟩⟩
 rw [HE.out, HV.out]
 go_enter Tryz.func74, Tryz.ntmps74
 go_wp2_with fail
 go_loop [1, 6] (fun x v => ∃ (k : Nat) (n : Int), x = .int .i64 k ∧ v = .int .i64 n ∧ k ≤ s.size ∧ 0 ≤ n ∧ n ≤ 99999999999 ∧ Hid (k + twN digB s k = en) ∧ Hid (numV n ((s.data.toList.drop k).takeWhile digB) = V)) (fun x _ => s.size - (intOf x).toNat)
 case atStart => exact ⟨i, 0, rfl, rfl, hi, by omega, by omega, HE.out, HV.out⟩
 case round =>
  obtain ⟨k, n, rfl, rfl, hk2, hn1, hn2, HK, HN⟩ := hrel
  by_cases hlt : k < s.size
  ·have hlt2 : (k : Int) < (s.size : Int) := by omega
   obtain ⟨b, hb⟩ : ∃ b, digB s[k] = b := ⟨_, rfl⟩
   have HC : Box (∀ w, Calls Tryz.prog 73 #[.int .u8 (s[k].toNat : Int)] w fun e w' => e = .returned (.bool b) ∧ w = w') := ⟨fun w => by rw [← hb]; exact rdigit_any _ w⟩
   cases b
   ·have HKN : Hid (k = en) := by have := HK.out; rw [twN_stop hlt hb] at this; exact this
    have HVN : Hid (n = V) := by
     have := HN.out
     rw [kdrop_at hlt, List.takeWhile_cons, hb] at this
     show n = V
     simpa [numV] using this
    obtain rfl : k = en := HKN.out
    obtain rfl : n = V := HVN.out
    clear hb
    go_wp2_with (go_at_call 73; (with_reducible refine (HC.out _).mono ?_); rintro e w' ⟨rfl, rfl⟩)
    go_ret2
    exact ⟨rfl, rfl⟩
   ·have HKN : Hid (k + 1 + twN digB s (k + 1) = en) := by have h5 := HK.out; rw [twN_step hlt hb] at h5; show k + 1 + twN digB s (k + 1) = en; omega
    obtain ⟨d1, d2⟩ := (digB_iff _).1 hb
    have HVV : Box (numV n (s[k] :: ((s.data.toList.drop (k + 1)).takeWhile digB)) = V) := ⟨by
     have := HN.out
     rw [kdrop_at hlt, List.takeWhile_cons, hb] at this
     simpa using this⟩
    clear hb
    by_cases hn3 : n ≤ 1073741824
    ·have HVN : Hid (numV (10 * n + ((s[k].toNat : Int) - 48)) ((s.data.toList.drop (k + 1)).takeWhile digB) = V) := by
      have := HVV.out
      rw [numV, if_pos hn3] at this
      rw [show 10 * n = n * 10 by omega]
      exact this
     go_wp2_with (go_at_call 73; (with_reducible refine (HC.out _).mono ?_); rintro e w' ⟨rfl, rfl⟩)
     go_round
     case rel => exact ⟨k + 1, _, by go_num, rfl, by omega, by omega, by omega, HKN.out, HVN.out⟩
     case measure => simp [intOf]; omega
    ·have HVN : Hid (numV n ((s.data.toList.drop (k + 1)).takeWhile digB) = V) := by
      have := HVV.out
      rw [numV_big (by omega)] at this
      show numV n _ = V
      rw [numV_big (by omega)]
      exact this
     go_wp2_with (go_at_call 73; (with_reducible refine (HC.out _).mono ?_); rintro e w' ⟨rfl, rfl⟩)
     go_round
     case rel => exact ⟨k + 1, _, by go_num, rfl, by omega, by omega, by omega, HKN.out, HVN.out⟩
     case measure => simp [intOf]; omega
  ·have hlt2 : ¬ (k : Int) < (s.size : Int) := by omega
   have HKN : Hid (k = en) := by have := HK.out; rw [twN_end (by omega)] at this; exact this
   have HVN : Hid (n = V) := by
    have := HN.out
    rw [List.drop_eq_nil_of_le (by rw [data_size]; omega)] at this
    show n = V
    simpa [numV] using this
   obtain rfl : k = en := HKN.out
   obtain rfl : n = V := HVN.out
   go_wp2_with fail
   go_ret2
   exact ⟨rfl, rfl⟩
def symsL : List UInt8 := [43, 45, 42, 47, 40, 41, 123, 125, 44, 46, 64, 61]
theorem one_ext (s : ByteArray) (i : Nat) (h : i < s.size) : s.extract i (i + 1) = bsL [s[i]] := by
 rw [ext_bs, kdrop_at h]; simp
theorem sym_in {c : UInt8} {r : List UInt8} (h : c ∈ symsL) : symN (c :: r) = 1 := by
 rw [symN, if_pos]
 simp only [symsL, List.mem_cons, List.not_mem_nil, or_false] at h
 rcases h with rfl | rfl | rfl | rfl | rfl | rfl | rfl | rfl | rfl | rfl | rfl | rfl <;> decide
theorem sym_out {c : UInt8} {r : List UInt8} (h : c ∉ symsL) : symN (c :: r) = if (c.toNat = 33 ∨ c.toNat = 94) ∧ (r.head?.map UInt8.toNat) = some 61 then 2 else 0 := by
 rw [symN, if_neg]
 intro hc
 apply h
 have e : ∀ n : Nat, n < 256 → c.toNat = n → c = UInt8.ofNat n := fun n hn hh => by rw [← hh]; simp
 simp only [symsL, List.mem_cons, List.not_mem_nil, or_false]
 rcases hc with h | h | h | h | h | h | h | h | h | h | h | h <;> rw [e _ (by omega) h] <;> simp
theorem syms_cell {W : World} {g ty : Nat} (h : Blk W g ty #[.string ⟨#[43]⟩, .string ⟨#[45]⟩, .string ⟨#[42]⟩, .string ⟨#[47]⟩, .string ⟨#[40]⟩, .string ⟨#[41]⟩, .string ⟨#[123]⟩, .string ⟨#[125]⟩, .string ⟨#[44]⟩, .string ⟨#[46]⟩, .string ⟨#[64]⟩, .string ⟨#[61]⟩]) (k : Nat) (c : UInt8) (hk : symsL[k]? = some c) : W.cell? ⟨g, k, none⟩ = some (.string (bsL [c])) := by
 unfold Blk at h
 have hl : k < 12 := by have := (List.getElem?_eq_some_iff.1 hk).1; simpa [symsL] using this
 match k, hl, hk with
 | 0, _, hk => simp only [symsL] at hk; simp at hk; subst hk; simp [World.cell?, h]; rfl
 | 1, _, hk => simp only [symsL] at hk; simp at hk; subst hk; simp [World.cell?, h]; rfl
 | 2, _, hk => simp only [symsL] at hk; simp at hk; subst hk; simp [World.cell?, h]; rfl
 | 3, _, hk => simp only [symsL] at hk; simp at hk; subst hk; simp [World.cell?, h]; rfl
 | 4, _, hk => simp only [symsL] at hk; simp at hk; subst hk; simp [World.cell?, h]; rfl
 | 5, _, hk => simp only [symsL] at hk; simp at hk; subst hk; simp [World.cell?, h]; rfl
 | 6, _, hk => simp only [symsL] at hk; simp at hk; subst hk; simp [World.cell?, h]; rfl
 | 7, _, hk => simp only [symsL] at hk; simp at hk; subst hk; simp [World.cell?, h]; rfl
 | 8, _, hk => simp only [symsL] at hk; simp at hk; subst hk; simp [World.cell?, h]; rfl
 | 9, _, hk => simp only [symsL] at hk; simp at hk; subst hk; simp [World.cell?, h]; rfl
 | 10, _, hk => simp only [symsL] at hk; simp at hk; subst hk; simp [World.cell?, h]; rfl
 | 11, _, hk => simp only [symsL] at hk; simp at hk; subst hk; simp [World.cell?, h]; rfl
theorem lit_beq (x : ByteArray) (a b : UInt8) (hx : x = bsL [a]) : (x.toList == [b]) = (a == b) := by
 have h := bsL_beq [a] [b]
 rw [hx]
 rw [show ([b] : List UInt8) = (bsL [b]).toList from (by rw [ByteArray.toList_eq]; simp [bsL]), h]
 simp
theorem beq_one (x : ByteArray) (a b : UInt8) (hx : x = bsL [a]) : ((bsL [b]).toList == x.toList) = (b == a) := by
 rw [hx, bsL_beq]; simp
theorem u8_eq (c : UInt8) (n : Nat) (hn : n < 256) : (c == UInt8.ofNat n) = decide (c.toNat = n) := by
 rw [Bool.eq_iff_iff, beq_iff_eq, decide_eq_true_eq]
 constructor
 ·rintro rfl; rw [UInt8.toNat_ofNat']; omega
 ·intro h; rw [← h]; simp
set_option maxHeartbeats 4000000 in
set_option maxRecDepth 100000 in
theorem rsymbol_any (s : ByteArray) (i : Nat) (w : World) (hi : i < s.size) (hs : s.size ≤ 4000) :
  Calls Tryz.prog 76 #[.string s, .int .i64 i] w (RetB (.string (bsL ((s.data.toList.drop i).take (symN (s.data.toList.drop i))))) w) := by
 have hi2 : (i : Int) < (s.size : Int) := by omega
 obtain ⟨c, hc⟩ : ∃ c, s[i] = c := ⟨_, rfl⟩
 have HD : Box (s.data.toList.drop i = c :: s.data.toList.drop (i + 1)) := ⟨by rw [kdrop_at hi, hc]⟩
 obtain ⟨R, HR⟩ : ∃ R, Box (bsL ((s.data.toList.drop i).take (symN (s.data.toList.drop i))) = R) := ⟨_, ⟨rfl⟩⟩
 rw [HR.out]
 have HONE : Box (s.extract i (i + 1) = bsL [c]) := ⟨by rw [one_ext s i hi, hc]⟩
 have HS : Box (s.data.toList.length = s.size) := ⟨data_size s⟩
 have f33 : ((s.extract i (i + 1)).toList == [33]) = decide (c.toNat = 33) := by rw [lit_beq _ c 33 HONE.out]; exact u8_eq c 33 (by omega)
 have f94 : ((s.extract i (i + 1)).toList == [94]) = decide (c.toNat = 94) := by rw [lit_beq _ c 94 HONE.out]; exact u8_eq c 94 (by omega)
 obtain ⟨tw, htw⟩ : ∃ b : Bool, decide ((c.toNat = 33 ∨ c.toNat = 94) ∧ ((s.data.toList.drop (i + 1)).head?.map UInt8.toNat) = some 61) = b := ⟨_, rfl⟩
 have HTW := Box.mk htw
 clear htw
 go_enter Tryz.func76, Tryz.ntmps76
 go_upto_region 2 with (fail)
 go_cut [32] (fun v wx => v = .bool tw ∧ wx = w)
 case first =>
  by_cases hi1 : i + 1 < s.size
  ·have hi3 : (i : Int) + 1 < (s.size : Int) := by omega
   have HHD : Box (((s.data.toList.drop (i + 1)).head?.map UInt8.toNat) = some s[i + 1].toNat) := ⟨by rw [kdrop_at hi1]; rfl⟩
   obtain ⟨x, hx⟩ : ∃ x, s[i + 1].toNat = x := ⟨_, rfl⟩
   have HX : Box (tw = decide ((c.toNat = 33 ∨ c.toNat = 94) ∧ x = 61)) := ⟨by rw [← HTW.out, HHD.out, hx]; simp⟩
   by_cases h1 : c.toNat = 33
   ·have g1 : decide (c.toNat = 33) = true := by simp [h1]
    have g3 : ((x : Int) == 61) = decide (x = 61) := by rw [Bool.eq_iff_iff, beq_iff_eq, decide_eq_true_eq]; omega
    have HE : Box (tw = decide (x = 61)) := ⟨by rw [HX.out]; simp [h1]⟩
    rw [g1] at f33
    clear h1 g1
    go_wp2_with fail
    go_meet
    exact ⟨by rw [HE.out], rfl⟩
   ·have g1 : decide (c.toNat = 33) = false := by simp [h1]
    rw [g1] at f33
    by_cases h2 : c.toNat = 94
    ·have g2 : decide (c.toNat = 94) = true := by simp [h2]
     have g3 : ((x : Int) == 61) = decide (x = 61) := by rw [Bool.eq_iff_iff, beq_iff_eq, decide_eq_true_eq]; omega
     have HE : Box (tw = decide (x = 61)) := ⟨by rw [HX.out]; simp [h2]⟩
     rw [g2] at f94
     clear h1 h2 g1 g2
     go_wp2_with fail
     go_meet
     exact ⟨by rw [HE.out], rfl⟩
    ·have g2 : decide (c.toNat = 94) = false := by simp [h2]
     have HE : Box (tw = false) := ⟨by rw [HX.out]; simp [h1, h2]⟩
     rw [g2] at f94
     clear h1 h2 g1 g2
     go_wp2_with fail
     go_meet
     exact ⟨by rw [HE.out], rfl⟩
  ·have hi3 : ¬ (i : Int) + 1 < (s.size : Int) := by omega
   have HE : Box (tw = false) := ⟨by rw [← HTW.out, List.drop_eq_nil_of_le (by rw [HS.out]; omega)]; simp⟩
   by_cases h1 : c.toNat = 33
   ·have g1 : decide (c.toNat = 33) = true := by simp [h1]
    rw [g1] at f33
    clear h1 g1
    go_wp2_with fail
    go_meet
    exact ⟨by rw [HE.out], rfl⟩
   ·have g1 : decide (c.toNat = 33) = false := by simp [h1]
    rw [g1] at f33
    by_cases h2 : c.toNat = 94
    ·have g2 : decide (c.toNat = 94) = true := by simp [h2]
     rw [g2] at f94
     clear h1 h2 g1 g2
     go_wp2_with fail
     go_meet
     exact ⟨by rw [HE.out], rfl⟩
    ·have g2 : decide (c.toNat = 94) = false := by simp [h2]
     rw [g2] at f94
     clear h1 h2 g1 g2
     go_wp2_with fail
     go_meet
     exact ⟨by rw [HE.out], rfl⟩
 case rest =>
  obtain ⟨rfl, rfl⟩ := hcut
  rename World => w
  clear f33 f94
  cases tw
  ·have HNT := of_decide_eq_false HTW.out
   have HNT := Box.mk HNT
   go_upto_region 5 with (fail)
   have HB : Box (Blk (w.alloc (.cells #[.string ⟨#[43]⟩, .string ⟨#[45]⟩, .string ⟨#[42]⟩, .string ⟨#[47]⟩, .string ⟨#[40]⟩, .string ⟨#[41]⟩, .string ⟨#[123]⟩, .string ⟨#[125]⟩, .string ⟨#[44]⟩, .string ⟨#[46]⟩, .string ⟨#[64]⟩, .string ⟨#[61]⟩] 9)) w.heap.size 9 #[.string ⟨#[43]⟩, .string ⟨#[45]⟩, .string ⟨#[42]⟩, .string ⟨#[47]⟩, .string ⟨#[40]⟩, .string ⟨#[41]⟩, .string ⟨#[123]⟩, .string ⟨#[125]⟩, .string ⟨#[44]⟩, .string ⟨#[46]⟩, .string ⟨#[64]⟩, .string ⟨#[61]⟩] ∧ Below w.heap.size w (w.alloc (.cells #[.string ⟨#[43]⟩, .string ⟨#[45]⟩, .string ⟨#[42]⟩, .string ⟨#[47]⟩, .string ⟨#[40]⟩, .string ⟨#[41]⟩, .string ⟨#[123]⟩, .string ⟨#[125]⟩, .string ⟨#[44]⟩, .string ⟨#[46]⟩, .string ⟨#[64]⟩, .string ⟨#[61]⟩] 9))) := ⟨Blk.new _ _ _, bel1 _ _⟩
   generalize w.alloc (.cells #[.string ⟨#[43]⟩, .string ⟨#[45]⟩, .string ⟨#[42]⟩, .string ⟨#[47]⟩, .string ⟨#[40]⟩, .string ⟨#[41]⟩, .string ⟨#[123]⟩, .string ⟨#[125]⟩, .string ⟨#[44]⟩, .string ⟨#[46]⟩, .string ⟨#[64]⟩, .string ⟨#[61]⟩] 9) = W1 at HB ⊢
   generalize hgs : w.heap.size = g at *
   go_wp2_with fail
   go_loopw [7] (fun v wr => ∃ k : Nat, k ≤ 12 ∧ v = .int .i64 k ∧ wr = W1 ∧ Hid (∀ j, j < k → symsL[j]? ≠ some c)) (fun v _ => 12 - (intOf v).toNat)
   case atStart => exact ⟨0, by omega, rfl, rfl, fun j hj => by omega⟩
   case round =>
    obtain ⟨k, hk, rfl, rfl, HK⟩ := hrel
    by_cases hlt : k < 12
    ·have hlt2 : (k : Int) < 12 := by omega
     have hk0 : (0 : Int) ≤ (k : Int) := by omega
     obtain ⟨y, hy⟩ : ∃ y, symsL[k]? = some y := ⟨symsL[k]'(by simpa [symsL] using hlt), List.getElem?_eq_getElem _⟩
     have y1 := syms_cell HB.out.1 k y hy
     have HY := Box.mk hy
     obtain ⟨q, hq⟩ : ∃ q : Bool, (y == c) = q := ⟨_, rfl⟩
     have f1 : ((bsL [y]).toList == (s.extract i (i + 1)).toList) = q := by rw [beq_one _ c y HONE.out, hq]
     have HQ := Box.mk hq
     clear hy hq
     generalize bsL [y] = yb at *
     cases q
     ·have HK2 : Hid (∀ j, j < k + 1 → symsL[j]? ≠ some c) := fun j hj => by
       by_cases hjk : j = k
       ·subst hjk
        rw [HY.out]
        intro hh
        have := HQ.out
        rw [Option.some.inj hh] at this
        simp at this
       ·exact HK.out j (by omega)
      go_wp2_with fail
      go_roundw
      ·exact ⟨k + 1, by omega, by go_num, by first | rfl | trivial, HK2⟩
      ·simp [intOf]; omega
     ·have HYC : Box (y = c) := ⟨by simpa using HQ.out⟩
      have HF : Box (R = s.extract i (i + 1)) := ⟨by
       rw [← HR.out, HD.out, sym_in (by rw [← HYC.out]; exact List.mem_of_getElem? HY.out), HONE.out]; rfl⟩
      go_wp2_with fail
      go_ret
      exact ⟨ret_str HF.out.symm, by rw [hgs]; exact HB.out.2⟩
    ·have hke : k = 12 := by omega
     subst hke
     have HF : Box (R = ⟨#[]⟩) := ⟨by
      rw [← HR.out, HD.out, sym_out (by
       intro hm
       obtain ⟨j, hj⟩ := List.mem_iff_getElem?.1 hm
       have hj2 : j < 12 := by have := (List.getElem?_eq_some_iff.1 hj).1; simpa [symsL] using this
       exact HK.out j hj2 hj), if_neg HNT.out]; rfl⟩
     go_wp2_with fail
     go_ret
     exact ⟨ret_str HF.out.symm, by rw [hgs]; exact HB.out.2⟩
  ·have HT := of_decide_eq_true HTW.out
   have hi1 : i + 1 < s.size := by
    rcases Nat.lt_or_ge (i + 1) s.size with h | h
    ·exact h
    ·rw [List.drop_eq_nil_of_le (by rw [HS.out]; omega)] at HT; simp at HT
   have HF : Box (R = s.extract i (i + 2)) := ⟨by rw [← HR.out, HD.out, symN_2 HT.1 HT.2, ext_bs, HD.out]⟩
   have hi3 : (i : Int) + 2 ≤ (s.size : Int) := by omega
   clear HT
   go_wp2_with fail
   go_ret
   exact ⟨ret_str HF.out.symm, Below.refl _ _⟩
end
end Go.Proofs.YthoibeajhdhdhaaGreatDoor
