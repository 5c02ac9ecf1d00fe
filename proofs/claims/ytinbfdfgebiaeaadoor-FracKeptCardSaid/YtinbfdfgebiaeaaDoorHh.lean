/- Int and End of the reader of package wire. -/
import Derived.Test.YtinbfdfgebiaeaaDoorHg
set_option linter.unusedVariables false
set_option linter.unusedSimpArgs false
namespace Go.Proofs.YtinbfdfgebiaeaaDoor
open Go.RowKit

theorem and1 (z : Nat) (hz : z < 18446744073709551616) : bits .and .u64 (z : Int) 1 = ((z % 2 : Nat) : Int) := by
  have h1 : (BitVec.ofInt 64 (z : Int)).toNat = z := by
    rw [BitVec.ofInt_natCast, BitVec.toNat_ofNat]; exact Nat.mod_eq_of_lt (by omega)
  have h2 : (BitVec.ofInt 64 1).toNat = 1 := rfl
  show IntKind.u64.wrap ((BitVec.ofInt 64 (z : Int) &&& BitVec.ofInt 64 1).toNat : Int) = _
  rw [BitVec.toNat_and, h1, h2, Nat.and_one_is_mod, IntKind.wrap_u64]
  omega
theorem xor_i64_zero (a : Nat) (ha : a < 9223372036854775808) : bits .xor .i64 (a : Int) 0 = (a : Int) := by
  have h1 : (BitVec.ofInt 64 (a : Int)).toNat = a := by
    rw [BitVec.ofInt_natCast, BitVec.toNat_ofNat]; exact Nat.mod_eq_of_lt (by omega)
  have h2 : (BitVec.ofInt 64 0).toNat = 0 := rfl
  show IntKind.i64.wrap ((BitVec.ofInt 64 (a : Int) ^^^ BitVec.ofInt 64 0).toNat : Int) = _
  rw [BitVec.toNat_xor, h1, h2, Nat.xor_zero, IntKind.wrap_i64]
  omega
theorem xor_i64_ones (a : Nat) (ha : a < 9223372036854775808) : bits .xor .i64 (a : Int) (-1) = -(a : Int) - 1 := by
  have h1 : (BitVec.ofInt 64 (a : Int)).toNat = a := by
    rw [BitVec.ofInt_natCast, BitVec.toNat_ofNat]; exact Nat.mod_eq_of_lt (by omega)
  have h2 : (BitVec.ofInt 64 (-1)).toNat = 18446744073709551615 := rfl
  show IntKind.i64.wrap ((BitVec.ofInt 64 (a : Int) ^^^ BitVec.ofInt 64 (-1)).toNat : Int) = _
  rw [BitVec.toNat_xor, h1, h2, xor_ones a (by omega), IntKind.wrap_i64]
  omega
theorem zag_eq (z : Nat) (hz : z < 18446744073709551616) : bits .xor .i64 (wrap64 ((z : Int) / 2)) (wrap64 (-wrap64 (bits .and .u64 (z : Int) 1))) = zag z := by
  have e1 : wrap64 ((z : Int) / 2) = ((z / 2 : Nat) : Int) := by unfold wrap64; omega
  rw [and1 z hz, e1]
  unfold zag
  by_cases h : z % 2 = 0
  · rw [if_pos h, h, show wrap64 (-wrap64 ((0 : Nat) : Int)) = 0 by unfold wrap64; omega]
    exact xor_i64_zero _ (by omega)
  · rw [if_neg h, show z % 2 = 1 by omega, show wrap64 (-wrap64 ((1 : Nat) : Int)) = -1 by unfold wrap64; omega]
    exact xor_i64_ones _ (by omega)
set_option maxHeartbeats 1000000 in
theorem rint_any (h b off c p : Nat) (n : Int) (l r : List Nat) (w : World) (hr : RD h b off c l w p) (hd : l.drop p = uv (zig n) ++ r) (n1 : -9223372036854775808 ≤ n) (n2 : n ≤ 9223372036854775807) (hl : l.length ≤ 2000) :
    Calls Tryd.prog 10 #[.pointer (some ⟨h, 0, none⟩)] w (RetU h b off c l (p + (uv (zig n)).length) (.int .i64 n) w) := by
  have HR := Box.mk hr
  have HD := Box.mk hd
  have HZ := Box.mk (zig_lt n1 n2)
  have hev : bits .xor .i64 (wrap64 ((zig n : Int) / 2)) (wrap64 (-wrap64 (bits .and .u64 (zig n : Int) 1))) = n := by rw [zag_eq _ (zig_lt n1 n2), zag_zig]
  clear hr hd n1 n2
  go_enter Tryd.func10, Tryd.ntmps10
  go_wp2_with fail
  refine (ruint_any h b off c p (zig n) l r _ HR.out HD.out HZ.out hl).mono ?_
  rintro e w1 ⟨rfl, hr1, hf1⟩
  go_wp2_with fail
  go_ret
  exact ⟨rfl, hr1, hf1⟩
set_option maxHeartbeats 1000000 in
theorem end_any (h b off c p : Nat) (l : List Nat) (w : World) (hr : RD h b off c l w p) (hp : p = l.length) (hl : l.length ≤ 2000) :
    Calls Tryd.prog 13 #[.pointer (some ⟨h, 0, none⟩)] w (RetU h b off c l p (.int .i64 0) w) := by
  subst hp
  have HR := Box.mk hr
  obtain ⟨r0, r1, r2⟩ := hr.blk.c3
  have hlt : ¬ (l.length : Int) < (l.length : Int) := by omega
  clear hr
  go_enter Tryd.func13, Tryd.ntmps13
  go_upto_region 3 with (fail)
  go_region
  all_goals
    go_wp2_with fail
    go_ret
    exact ⟨rfl, by first | exact HR.out | exact HR.out.below (below_drewN _ _), by first | exact FW.refl _ _ _ | exact FW.of_below (below_drewN _ _)⟩
end Go.Proofs.YtinbfdfgebiaeaaDoor
