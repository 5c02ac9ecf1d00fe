/- Contracts, packed: Fg. -/
import Derived.Test.YthoibeajhdhdhaaDoorPn2
import Derived.Test.YthoibeajhdhdhaaDoorPn43
import Derived.Lib.ItoaNum
import Derived.Deep.CutBlock
import Derived.Deep.DeepCutAuto
import Derived.Laws.BitsLemmas
set_option linter.unusedVariables false
set_option linter.unusedSimpArgs false
namespace Go.Proofs.YthoibeajhdhdhaaDoor
section
open Go.RowKit

theorem lz_any (y : Nat) (w : World) (h1 : 1 ≤ y) (h2 : y < 18446744073709551616) :
    Calls Tryd.prog 95 #[.int .u64 y] w fun e w' => e = .returned (.int .i64 (64 - (Lib.bitLen y : Int))) ∧ w = w' := by
  have hb := Lib.bitLenAux_bounds 64 y (by omega) (by omega)
  have hl : Lib.bitLen y ≤ 64 := by
    rcases Nat.lt_or_ge 64 (Lib.bitLen y) with h | h
    · have : 2 ^ 64 ≤ 2 ^ (Lib.bitLen y - 1) := Nat.pow_le_pow_right (by omega) (by omega)
      have := hb.2.1
      unfold Lib.bitLen at *
      omega
    · exact h
  clear hb
  go_enter Tryd.func95, Tryd.ntmps95
  go_wp2_with (go_at_call 104; refine (Tryd.bits_Len64 _ _ (by omega) (by omega)).mono ?_; rintro e w' ⟨rfl, rfl⟩; rw [show ((y : Int)).toNat = y from rfl])
  go_ret
  exact ⟨rfl, rfl⟩

theorem fin_u64 (n : Int) (h1 : 0 ≤ n) (h2 : n < 18446744073709551616) : IntKind.u64.wrap n = n := by simp [IntKind.wrap, IntKind.bits, IntKind.signed]; omega

theorem div64_zero (lo y : Nat) (w : World) (h1 : 1 ≤ y) (h2 : y < 18446744073709551616) (h3 : lo < 18446744073709551616) :
    Calls Tryd.prog 74 #[.int .u64 0, .int .u64 lo, .int .u64 y] w fun e w' => e = .returned (.tuple #[.int .u64 ((lo / y : Nat) : Int), .int .u64 ((lo % y : Nat) : Int)]) ∧ ∃ n, w' = w.drewN n := by
  have z1 : ((y : Int) == 0) = false := by simp; omega
  have z2 : 1 ≤ (y : Int) := by omega
  go_enter Tryd.func74, Tryd.ntmps74
  have q1 : lo / y ≤ lo := Nat.div_le_self _ _
  have q2 : lo % y ≤ lo := Nat.mod_le _ _
  obtain ⟨q, hq⟩ : ∃ q, q = lo / y := ⟨_, rfl⟩
  obtain ⟨r, hr⟩ : ∃ r, r = lo % y := ⟨_, rfl⟩
  rw [← hq] at q1 ⊢
  rw [← hr] at q2 ⊢
  have y1 : IntKind.u64.wrap ((lo : Int).tdiv (y : Int)) = q := by rw [← Int.ofNat_tdiv, ← hq]; exact fin_u64 _ (by omega) (by omega)
  have y2 : IntKind.u64.wrap ((lo : Int) / (y : Int)) = q := by rw [← Int.natCast_ediv, ← hq]; exact fin_u64 _ (by omega) (by omega)
  have y3 : IntKind.u64.wrap ((lo : Int).tmod (y : Int)) = r := by rw [← Int.ofNat_tmod, ← hr]; exact fin_u64 _ (by omega) (by omega)
  have y4 : IntKind.u64.wrap ((lo : Int) % (y : Int)) = r := by rw [← Int.natCast_emod, ← hr]; exact fin_u64 _ (by omega) (by omega)
  have y5 : (lo : Int) % (y : Int) = r := by rw [← Int.natCast_emod, ← hr]
  clear hq hr
  go_wp2
  go_quiet (fail)
  go_wp2
  go_ret2
  exact ⟨by simp [y5], _, rfl⟩

theorem wraps64 (n : Int) (h0 : 0 ≤ n) (h1 : n < 2 ^ 64) : IntKind.u64.wrap n = n := fin_u64 n h0 (by omega)
theorem and32 (a : Nat) (h : a < 18446744073709551616) : bits .and .u64 (a : Int) 4294967295 = ((a % 4294967296 : Nat) : Int) := by
  have h1 := (bits_nat .u64 64 (by decide) wraps64 a 4294967295 (by omega) (by decide)).1
  have e : a &&& 4294967295 = a % 4294967296 := Nat.and_two_pow_sub_one_eq_mod a 32
  rw [e] at h1
  exact h1
/-- the words of the shifted numbers -/
structure Norm (hi lo y s V V1 V0 H K U L L1 L0 : Nat) : Prop where
  e1 : IntKind.u64.wrap ((y : Int) * 2 ^ s) = (V : Int)
  e2 : (V : Int) / 4294967296 = (V1 : Int)
  e3 : bits .and .u64 (V : Int) 4294967295 = (V0 : Int)
  e4 : IntKind.u64.wrap ((hi : Int) * 2 ^ s) = (H : Int)
  e5 : (lo : Int) / 2 ^ (64 - s) = (K : Int)
  e6 : bits .or .u64 (H : Int) (K : Int) = (U : Int)
  e7 : IntKind.u64.wrap ((lo : Int) * 2 ^ s) = (L : Int)
  e8 : (L : Int) / 4294967296 = (L1 : Int)
  e9 : bits .and .u64 (L : Int) 4294967295 = (L0 : Int)
  v : V = y * 2 ^ s
  v1 : 2147483648 ≤ V1
  v1' : V1 < 4294967296
  v0 : V0 < 4294967296
  vv : V = V1 * 4294967296 + V0
  u : U < V
  l1 : L1 < 4294967296
  l0 : L0 < 4294967296
  all : (U * 4294967296 + L1) * 4294967296 + L0 = (hi * 18446744073709551616 + lo) * 2 ^ s
theorem norm_of {hi lo y s : Nat} (h1 : 1 ≤ y) (h2 : y < 18446744073709551616) (h3 : lo < 18446744073709551616) (h4 : hi < y) (hs : (64 - (Lib.bitLen y : Int)) = s) :
    s ≤ 63 ∧ ∃ V V1 V0 H K U L L1 L0 : Nat, Norm hi lo y s V V1 V0 H K U L L1 L0 := by
  obtain ⟨b1, b2, b3⟩ := Lib.bitLenAux_bounds 64 y (by omega) (by omega)
  rw [show Lib.bitLenAux 64 y = Lib.bitLen y from rfl] at b1 b2 b3
  generalize Lib.bitLen y = n at *
  have hn : n ≤ 64 := by
    rcases Nat.lt_or_ge 64 n with h | h
    · have : 2 ^ 64 ≤ 2 ^ (n - 1) := Nat.pow_le_pow_right (by omega) (by omega)
      omega
    · exact h
  obtain rfl : s = 64 - n := by omega
  refine ⟨by omega, ?_⟩
  have p1 : 2 ^ (n - 1) * 2 ^ (64 - n) = 9223372036854775808 := by rw [← Nat.pow_add, show n - 1 + (64 - n) = 63 by omega]
  have p2 : 2 ^ n * 2 ^ (64 - n) = 18446744073709551616 := by rw [← Nat.pow_add, show n + (64 - n) = 64 by omega]
  have hp : 0 < 2 ^ (64 - n) := Nat.two_pow_pos _
  have e64 : 64 - (64 - n) = n := by omega
  have q1 : 9223372036854775808 ≤ y * 2 ^ (64 - n) := by rw [← p1]; exact Nat.mul_le_mul_right _ b2
  have q2 : y * 2 ^ (64 - n) < 18446744073709551616 := by rw [← p2]; exact Nat.mul_lt_mul_of_pos_right b3 hp
  have q3 : hi * 2 ^ (64 - n) + 2 ^ (64 - n) ≤ y * 2 ^ (64 - n) := by
    have : (hi + 1) * 2 ^ (64 - n) ≤ y * 2 ^ (64 - n) := Nat.mul_le_mul_right _ h4
    rw [Nat.add_mul, Nat.one_mul] at this; exact this
  have k1 : lo / 2 ^ n < 2 ^ (64 - n) := Nat.div_lt_of_lt_mul (by rw [p2]; exact h3)
  have k2 : lo * 2 ^ (64 - n) = (lo / 2 ^ n) * 18446744073709551616 + (lo % 2 ^ n) * 2 ^ (64 - n) := by
    rw [← p2, ← Nat.mul_assoc, ← Nat.add_mul, Nat.div_add_mod']
  have k3 : (lo % 2 ^ n) * 2 ^ (64 - n) < 18446744073709551616 := by rw [← p2]; exact Nat.mul_lt_mul_of_pos_right (Nat.mod_lt _ (Nat.two_pow_pos _)) hp
  have hor : hi * 2 ^ (64 - n) ||| lo / 2 ^ n = hi * 2 ^ (64 - n) + lo / 2 ^ n := by
    rw [Nat.mul_comm hi]; exact (Nat.two_pow_add_eq_or_of_lt k1 hi).symm
  refine ⟨y * 2 ^ (64 - n), y * 2 ^ (64 - n) / 4294967296, y * 2 ^ (64 - n) % 4294967296, hi * 2 ^ (64 - n), lo / 2 ^ n, hi * 2 ^ (64 - n) + lo / 2 ^ n, (lo % 2 ^ n) * 2 ^ (64 - n), (lo % 2 ^ n) * 2 ^ (64 - n) / 4294967296, (lo % 2 ^ n) * 2 ^ (64 - n) % 4294967296, ?_⟩
  have c1 : ((y : Int) * 2 ^ (64 - n)) = ((y * 2 ^ (64 - n) : Nat) : Int) := by push_cast; rfl
  have c2 : ((hi : Int) * 2 ^ (64 - n)) = ((hi * 2 ^ (64 - n) : Nat) : Int) := by push_cast; rfl
  have c3 : ((lo : Int) * 2 ^ (64 - n)) = ((lo * 2 ^ (64 - n) : Nat) : Int) := by push_cast; rfl
  constructor
  · rw [c1]; exact fin_u64 _ (by omega) (by omega)
  · omega
  · exact and32 _ q2
  · rw [c2]; exact fin_u64 _ (by omega) (by omega)
  · rw [e64]; push_cast; rfl
  · rw [(bits_nat .u64 64 (by decide) wraps64 _ _ (by omega) (by omega)).2, hor]
  · rw [c3, k2, IntKind.wrap_u64]; omega
  · omega
  · exact and32 _ k3
  · rfl
  · omega
  · omega
  · omega
  · omega
  · omega
  · omega
  · omega
  · rw [show (hi * 18446744073709551616 + lo) * 2 ^ (64 - n) = hi * 2 ^ (64 - n) * 18446744073709551616 + lo * 2 ^ (64 - n) by rw [Nat.add_mul, Nat.mul_assoc, Nat.mul_assoc, Nat.mul_comm 18446744073709551616], k2]
    generalize hi * 2 ^ (64 - n) = A
    generalize lo / 2 ^ n = C
    generalize (lo % 2 ^ n) * 2 ^ (64 - n) = D
    omega

theorem div_lt_next {X W q : Nat} (hW : 0 < W) (h : X / W = q) : q * W ≤ X ∧ X < q * W + W := by
  subst h
  refine ⟨Nat.div_mul_le_self _ _, ?_⟩
  have := Nat.div_add_mod X W
  have := Nat.mod_lt X hW
  have e : X / W * W = W * (X / W) := Nat.mul_comm _ _
  omega
theorem div_is {X W q : Nat} (h1 : q * W ≤ X) (h2 : X < q * W + W) : X / W = q := Knuth.div_of h1 (by rw [Nat.add_mul, Nat.one_mul]; exact h2)
theorem mod_is {X W q R : Nat} (h : X / W = q) (e : X = q * W + R) : X % W = R := by
  have := Nat.div_add_mod X W
  rw [h, Nat.mul_comm W] at this
  omega
theorem sub_eq {A B N : Nat} (h : N = A - B) (h2 : B ≤ A) : A = B + N := by omega
theorem fin_div {X y s V U L1 L0 q1 N q0 R : Nat} (hy : 0 < y) (hV : V = y * 2 ^ s) (hall : (U * 4294967296 + L1) * 4294967296 + L0 = X * 2 ^ s) (h1 : (U * 4294967296 + L1) / V = q1) (hN : N = U * 4294967296 + L1 - q1 * V) (h0 : (N * 4294967296 + L0) / V = q0) (hR : R = N * 4294967296 + L0 - q0 * V) :
    X / y = q1 * 4294967296 + q0 ∧ X % y = R / 2 ^ s := by
  have hs : 0 < 2 ^ s := Nat.two_pow_pos _
  have hV0 : 0 < V := by rw [hV]; exact Nat.mul_pos hy hs
  obtain ⟨a1, _⟩ := div_lt_next hV0 h1
  obtain ⟨a0, b0⟩ := div_lt_next hV0 h0
  have e1 := sub_eq hN a1
  have e2 := sub_eq hR a0
  have hR1 : R < V := by rw [e2] at b0; exact Nat.lt_of_add_lt_add_left b0
  have e : X * 2 ^ s = (q1 * 4294967296 + q0) * V + R := by
    rw [← hall, e1, Nat.add_mul (q1 * V), Nat.add_assoc, e2, ← Nat.add_assoc, Nat.add_mul, Nat.mul_right_comm]
  have d1 : X * 2 ^ s / V = q1 * 4294967296 + q0 := div_is (by rw [e]; exact Nat.le_add_right _ _) (by rw [e]; exact Nat.add_lt_add_left hR1 _)
  have d2 : X * 2 ^ s % V = R := mod_is d1 e
  rw [hV, Nat.mul_div_mul_right _ _ hs] at d1
  rw [hV, Nat.mul_mod_mul_right] at d2
  exact ⟨d1, by rw [← d2, Nat.mul_div_cancel _ hs]⟩
theorem dig_lt {U W u q : Nat} (hU : U < W) (hu : u < 4294967296) (h : (U * 4294967296 + u) / W = q) : q < 4294967296 := by
  rw [← h]
  refine Nat.div_lt_of_lt_mul ?_
  have h1 : (U + 1) * 4294967296 ≤ W * 4294967296 := Nat.mul_le_mul_right _ hU
  omega
theorem words_lt {V U u q N : Nat} (hV : 0 < V) (h : (U * 4294967296 + u) / V = q) (hN : N = U * 4294967296 + u - q * V) : N < V := by
  obtain ⟨a1, a2⟩ := div_lt_next hV h
  have e := sub_eq hN a1
  rw [e] at a2
  exact Nat.lt_of_add_lt_add_left a2
/-- U * 2^32 + u - q * V, as the words compute it -/
theorem words_of {V U u q : Nat} (hV : V < 18446744073709551616) (hu : u < 4294967296) (hU : U < V) (h : (U * 4294967296 + u) / V = q) :
    ∃ A1 A2 A3 N : Nat, IntKind.u64.wrap ((U : Int) * 4294967296) = (A1 : Int) ∧ IntKind.u64.wrap ((A1 : Int) + (u : Int)) = (A2 : Int) ∧ IntKind.u64.wrap ((q : Int) * (V : Int)) = (A3 : Int) ∧ IntKind.u64.wrap ((A2 : Int) - (A3 : Int)) = (N : Int) ∧ N = U * 4294967296 + u - q * V := by
  obtain ⟨a1, a2⟩ := div_lt_next (by omega) h
  have e : ((q : Int) * (V : Int)) = ((q * V : Nat) : Int) := (Int.natCast_mul _ _).symm
  clear h
  generalize q * V = X at *
  refine ⟨(U * 4294967296) % 18446744073709551616, (U * 4294967296 + u) % 18446744073709551616, X % 18446744073709551616, U * 4294967296 + u - X, ?_, ?_, ?_, ?_, rfl⟩
  · rw [IntKind.wrap_u64]; omega
  · rw [IntKind.wrap_u64]; omega
  · rw [e, IntKind.wrap_u64]; omega
  · rw [IntKind.wrap_u64]; omega
/-- what a digit's loop knows -/
def DigRel (V1 V0 U u : Nat) (a b : Value) : Prop := ∃ q r : Nat, a = .int .u64 q ∧ b = .int .u64 r ∧ U = q * V1 + r ∧ U * 4294967296 + u < (q + 1) * (V1 * 4294967296 + V0) ∧ r < 4294967296 ∧ q ≤ 8589934592

set_option maxHeartbeats 4000000 in
set_option maxRecDepth 100000 in
theorem div64_norm (hi lo y s : Nat) (w : World) (h1 : 1 ≤ y) (h2 : y < 18446744073709551616) (h3 : lo < 18446744073709551616) (h4 : hi < y) (h5 : 1 ≤ hi) (hs : (64 - (Lib.bitLen y : Int)) = s) :
    Calls Tryd.prog 74 #[.int .u64 hi, .int .u64 lo, .int .u64 y] w fun e w' => e = .returned (.tuple #[.int .u64 (((hi * 18446744073709551616 + lo) / y : Nat) : Int), .int .u64 (((hi * 18446744073709551616 + lo) % y : Nat) : Int)]) ∧ w = w' := by
  obtain ⟨hs2, V, V1, V0, H, K, U, L, L1, L0, N⟩ := norm_of h1 h2 h3 h4 hs
  have z1 : ((y : Int) == 0) = false := by simp; omega
  have z3 : ((hi : Int) == 0) = false := by simp; omega
  have HS := Lib.hid hs; clear hs
  obtain ⟨e1, e2, e3, e4, e5, e6, e7, e8, e9, nv, nv1, nv1', nv0, nvv, nu, nl1, nl0, nall⟩ := N
  have HN := Box.mk (And.intro nv (And.intro nvv nall)); clear nv nvv nall
  have nV : V < 18446744073709551616 := by have := HN.out.2.1; omega
  obtain ⟨k1, k2, k3⟩ := Knuth.k_start (v1 := V1) (v0 := V0) (U := U) (u := L1) (B := 4294967296) (by omega) nl1
  obtain ⟨Q, hQ⟩ : ∃ Q, Q = U / V1 := ⟨_, rfl⟩
  have hQb : Q ≤ 8589934592 := by
    rw [hQ]; refine Nat.le_trans (Nat.div_le_div_left nv1 (by omega)) ?_
    omega
  rw [← hQ] at k1 k2 k3
  obtain ⟨P, hP⟩ : ∃ P, P = Q * V1 := ⟨_, rfl⟩
  rw [← hP] at k2 k3
  have hPU : P ≤ U := by omega
  have e10 : (U : Int) / (V1 : Int) = (Q : Int) := by rw [hQ]; exact (Int.natCast_ediv _ _).symm
  have e11 : IntKind.u64.wrap ((Q : Int) * (V1 : Int)) = (P : Int) := by rw [hP, ← Int.natCast_mul]; exact fin_u64 _ (by omega) (by omega)
  have e12 : (U : Int) - (P : Int) = ((U - P : Nat) : Int) := by omega
  have HK : Box (U * 4294967296 + L1 < (Q + 1) * (V1 * 4294967296 + V0) ∧ U = Q * V1 + (U - P)) := ⟨⟨k1, by rw [← hP]; omega⟩⟩
  have k4 : U - P < 4294967296 := by omega
  clear k1 k2 k3 hQ hP
  go_enter Tryd.func74, Tryd.ntmps74
  go_upto_block 0 with (go_at_call 95; refine (lz_any _ _ (by omega) (by omega)).mono ?_; rintro e w' ⟨rfl, rfl⟩; rw [HS.out])
  clear e1 e2 e3 e4 e5 e6 e7 e8 e9 e10 e11 e12
  go_cut [15, 16] (fun a b wx => w = wx ∧ ∃ q : Nat, a = .int .u64 q ∧ (U * 4294967296 + L1) / (V1 * 4294967296 + V0) = q)
  case first =>
    go_wp2_with fail
    go_loop [15, 16] (fun a b => DigRel V1 V0 U L1 a b) (fun a _ => (intOf a).toNat)
    case atStart => exact ⟨Q, U - P, rfl, rfl, HK.out.2, HK.out.1, k4, hQb⟩
    case round =>
      obtain ⟨q, r, rfl, rfl, i1, i2, i3, i4⟩ := hrel
      have HI := Box.mk (And.intro i1 i2); clear i1 i2 HK
      have HU : Box (U < V1 * 4294967296 + V0) := ⟨by have := HN.out.2.1; omega⟩
      have nll := nl1
      by_cases c1 : (4294967296 : Int) ≤ (q : Int)
      ·
        obtain ⟨d1, d2⟩ := Knuth.k_dec (B := 4294967296) HU.out nll HI.out.1 (.inl (by omega))
        obtain ⟨q', hq'⟩ : ∃ q', q = q' + 1 := ⟨q - 1, by omega⟩
        have e20 : (q : Int) - 1 = (q' : Int) := by omega
        rw [hq'] at d2
        have HD : Box (U = q' * V1 + (r + V1) ∧ U * 4294967296 + L1 < (q' + 1) * (V1 * 4294967296 + V0)) := by
          refine ⟨⟨?_, d2⟩⟩
          have h := HI.out.1
          rw [hq', Nat.add_mul, Nat.one_mul] at h
          exact h.trans (by omega)
        have d5 : q' < q := by omega
        clear d1 d2 HI hq'
        by_cases c3 : (4294967296 : Int) ≤ (r : Int) + (V1 : Int)
        · have hq : (U * 4294967296 + L1) / (V1 * 4294967296 + V0) = q' := Knuth.k_break HU.out nv0 HD.out.1 (by omega) HD.out.2
          have HQ0 := Box.mk hq; clear hq HD
          go_wp2
          go_meet
          exact ⟨rfl, q', rfl, HQ0.out⟩
        · have c3d : decide ((4294967296 : Int) ≤ (r : Int) + (V1 : Int)) = false := by simpa using c3
          go_wp2
          go_round
          case rel => exact ⟨q', r + V1, by go_num, by go_num, HD.out.1, HD.out.2, by omega, by omega⟩
          case measure => simp [intOf]; omega
      · have c1d : decide ((4294967296 : Int) ≤ (q : Int)) = false := by simpa using c1
        obtain ⟨T, hT⟩ : ∃ T, T = q * V0 := ⟨_, rfl⟩
        have hT2 : T < 18446744073709551616 := by
          have h1 : q * V0 ≤ 4294967295 * V0 := Nat.mul_le_mul_right _ (by omega)
          omega
        have eT : IntKind.u64.wrap ((q : Int) * (V0 : Int)) = (T : Int) := by rw [hT, ← Int.natCast_mul]; exact fin_u64 _ (by omega) (by rw [← hT]; omega)
        have HT := Box.mk hT; clear hT
        by_cases c2 : (4294967296 : Int) * (r : Int) + (L1 : Int) < (T : Int)
        ·
          obtain ⟨d1, d2⟩ := Knuth.k_dec (B := 4294967296) HU.out nll HI.out.1 (.inr (by rw [← HT.out]; omega))
          obtain ⟨q', hq'⟩ : ∃ q', q = q' + 1 := ⟨q - 1, by omega⟩
          have e20 : (q : Int) - 1 = (q' : Int) := by omega
          rw [hq'] at d2
          have HD : Box (U = q' * V1 + (r + V1) ∧ U * 4294967296 + L1 < (q' + 1) * (V1 * 4294967296 + V0)) := by
            refine ⟨⟨?_, d2⟩⟩
            have h := HI.out.1
            rw [hq', Nat.add_mul, Nat.one_mul] at h
            exact h.trans (by omega)
          have d5 : q' < q := by omega
          clear d1 d2 HI hq'
          by_cases c3 : (4294967296 : Int) ≤ (r : Int) + (V1 : Int)
          · have hq : (U * 4294967296 + L1) / (V1 * 4294967296 + V0) = q' := Knuth.k_break HU.out nv0 HD.out.1 (by omega) HD.out.2
            have HQ0 := Box.mk hq; clear hq HD
            go_wp2
            go_meet
            exact ⟨rfl, q', rfl, HQ0.out⟩
          · have c3d : decide ((4294967296 : Int) ≤ (r : Int) + (V1 : Int)) = false := by simpa using c3
            go_wp2
            go_round
            case rel => exact ⟨q', r + V1, by go_num, by go_num, HD.out.1, HD.out.2, by omega, by omega⟩
            case measure => simp [intOf]; omega
        · have c2d : decide ((4294967296 : Int) * (r : Int) + (L1 : Int) < (T : Int)) = false := by simpa using c2
          have hq : (U * 4294967296 + L1) / (V1 * 4294967296 + V0) = q := Knuth.k_exit (B := 4294967296) HI.out.1 (by rw [← HT.out]; omega) HI.out.2
          have HQ0 := Box.mk hq; clear hq HI HT
          go_wp2
          go_meet
          exact ⟨rfl, q, rfl, HQ0.out⟩
  case rest =>
    obtain ⟨rfl, q1, rfl, hq0⟩ := hcut
    have HQ0 := Box.mk hq0; clear hq0
    have HU : Box (U < V1 * 4294967296 + V0) := ⟨by have := HN.out.2.1; omega⟩
    have g1 : q1 < 4294967296 := dig_lt HU.out nl1 HQ0.out
    obtain ⟨A1, A2, A3, N, f1, f2, f3, f4, hN⟩ := words_of (V := V) (q := q1) (U := U) (u := L1) nV nl1 nu (by rw [HN.out.2.1]; exact HQ0.out)
    have nN : N < V := words_lt (by omega) (by rw [HN.out.2.1]; exact HQ0.out) hN
    have HQ : Box ((U * 4294967296 + L1) / V = q1 ∧ N = U * 4294967296 + L1 - q1 * V) := ⟨⟨by rw [HN.out.2.1]; exact HQ0.out, hN⟩⟩
    clear hN HQ0
    obtain ⟨k1, k2, k3⟩ := Knuth.k_start (v1 := V1) (v0 := V0) (U := N) (u := L0) (B := 4294967296) (by omega) nl0
    obtain ⟨Q2, hQ⟩ : ∃ Q2, Q2 = N / V1 := ⟨_, rfl⟩
    have hQb2 : Q2 ≤ 8589934592 := by
      rw [hQ]; refine Nat.le_trans (Nat.div_le_div_left nv1 (by omega)) ?_
      omega
    rw [← hQ] at k1 k2 k3
    obtain ⟨P2, hP⟩ : ∃ P2, P2 = Q2 * V1 := ⟨_, rfl⟩
    rw [← hP] at k2 k3
    have hPN : P2 ≤ N := by omega
    have e10 : (N : Int) / (V1 : Int) = (Q2 : Int) := by rw [hQ]; exact (Int.natCast_ediv _ _).symm
    have e11 : IntKind.u64.wrap ((Q2 : Int) * (V1 : Int)) = (P2 : Int) := by rw [hP, ← Int.natCast_mul]; exact fin_u64 _ (by omega) (by omega)
    have e12 : (N : Int) - (P2 : Int) = ((N - P2 : Nat) : Int) := by omega
    have HK : Box (N * 4294967296 + L0 < (Q2 + 1) * (V1 * 4294967296 + V0) ∧ N = Q2 * V1 + (N - P2)) := ⟨⟨k1, by rw [← hP]; omega⟩⟩
    have k4 : N - P2 < 4294967296 := by omega
    clear k1 k2 k3 hQ hP HU
    go_upto_block 2 with (fail)
    clear f1 f2 f3 f4 e10 e11 e12
    go_cut [18, 16] (fun a b wx => w = wx ∧ ∃ q : Nat, a = .int .u64 q ∧ (N * 4294967296 + L0) / (V1 * 4294967296 + V0) = q)
    case first =>
      go_wp2_with fail
      go_loop [18, 16] (fun a b => DigRel V1 V0 N L0 a b) (fun a _ => (intOf a).toNat)
      case atStart => exact ⟨Q2, N - P2, rfl, rfl, HK.out.2, HK.out.1, k4, hQb2⟩
      case round =>
        obtain ⟨x, z, rfl, rfl, i1, i2, i3, i4⟩ := hrel
        have HI := Box.mk (And.intro i1 i2); clear i1 i2 HK
        have HU : Box (N < V1 * 4294967296 + V0) := ⟨by have := HN.out.2.1; omega⟩
        have nll := nl0
        by_cases c1 : (4294967296 : Int) ≤ (x : Int)
        ·
          obtain ⟨d1, d2⟩ := Knuth.k_dec (B := 4294967296) HU.out nll HI.out.1 (.inl (by omega))
          obtain ⟨x', hq'⟩ : ∃ x', x = x' + 1 := ⟨x - 1, by omega⟩
          have e20 : (x : Int) - 1 = (x' : Int) := by omega
          rw [hq'] at d2
          have HD : Box (N = x' * V1 + (z + V1) ∧ N * 4294967296 + L0 < (x' + 1) * (V1 * 4294967296 + V0)) := by
            refine ⟨⟨?_, d2⟩⟩
            have h := HI.out.1
            rw [hq', Nat.add_mul, Nat.one_mul] at h
            exact h.trans (by omega)
          have d5 : x' < x := by omega
          clear d1 d2 HI hq'
          by_cases c3 : (4294967296 : Int) ≤ (z : Int) + (V1 : Int)
          · have hq : (N * 4294967296 + L0) / (V1 * 4294967296 + V0) = x' := Knuth.k_break HU.out nv0 HD.out.1 (by omega) HD.out.2
            have HQ0 := Box.mk hq; clear hq HD
            go_wp2
            go_meet
            exact ⟨rfl, x', rfl, HQ0.out⟩
          · have c3d : decide ((4294967296 : Int) ≤ (z : Int) + (V1 : Int)) = false := by simpa using c3
            go_wp2
            go_round
            case rel => exact ⟨x', z + V1, by go_num, by go_num, HD.out.1, HD.out.2, by omega, by omega⟩
            case measure => simp [intOf]; omega
        · have c1d : decide ((4294967296 : Int) ≤ (x : Int)) = false := by simpa using c1
          obtain ⟨T, hT⟩ : ∃ T, T = x * V0 := ⟨_, rfl⟩
          have hT2 : T < 18446744073709551616 := by
            have h1 : x * V0 ≤ 4294967295 * V0 := Nat.mul_le_mul_right _ (by omega)
            omega
          have eT : IntKind.u64.wrap ((x : Int) * (V0 : Int)) = (T : Int) := by rw [hT, ← Int.natCast_mul]; exact fin_u64 _ (by omega) (by rw [← hT]; omega)
          have HT := Box.mk hT; clear hT
          by_cases c2 : (4294967296 : Int) * (z : Int) + (L0 : Int) < (T : Int)
          ·
            obtain ⟨d1, d2⟩ := Knuth.k_dec (B := 4294967296) HU.out nll HI.out.1 (.inr (by rw [← HT.out]; omega))
            obtain ⟨x', hq'⟩ : ∃ x', x = x' + 1 := ⟨x - 1, by omega⟩
            have e20 : (x : Int) - 1 = (x' : Int) := by omega
            rw [hq'] at d2
            have HD : Box (N = x' * V1 + (z + V1) ∧ N * 4294967296 + L0 < (x' + 1) * (V1 * 4294967296 + V0)) := by
              refine ⟨⟨?_, d2⟩⟩
              have h := HI.out.1
              rw [hq', Nat.add_mul, Nat.one_mul] at h
              exact h.trans (by omega)
            have d5 : x' < x := by omega
            clear d1 d2 HI hq'
            by_cases c3 : (4294967296 : Int) ≤ (z : Int) + (V1 : Int)
            · have hq : (N * 4294967296 + L0) / (V1 * 4294967296 + V0) = x' := Knuth.k_break HU.out nv0 HD.out.1 (by omega) HD.out.2
              have HQ0 := Box.mk hq; clear hq HD
              go_wp2
              go_meet
              exact ⟨rfl, x', rfl, HQ0.out⟩
            · have c3d : decide ((4294967296 : Int) ≤ (z : Int) + (V1 : Int)) = false := by simpa using c3
              go_wp2
              go_round
              case rel => exact ⟨x', z + V1, by go_num, by go_num, HD.out.1, HD.out.2, by omega, by omega⟩
              case measure => simp [intOf]; omega
          · have c2d : decide ((4294967296 : Int) * (z : Int) + (L0 : Int) < (T : Int)) = false := by simpa using c2
            have hq : (N * 4294967296 + L0) / (V1 * 4294967296 + V0) = x := Knuth.k_exit (B := 4294967296) HI.out.1 (by rw [← HT.out]; omega) HI.out.2
            have HQ0 := Box.mk hq; clear hq HI HT
            go_wp2
            go_meet
            exact ⟨rfl, x, rfl, HQ0.out⟩
    case rest =>
      obtain ⟨rfl, q0, rfl, hq0⟩ := hcut
      have HQ0 := Box.mk hq0; clear hq0 HK
      have HU : Box (N < V1 * 4294967296 + V0) := ⟨by have := HN.out.2.1; omega⟩
      have g0 : q0 < 4294967296 := dig_lt HU.out nl0 HQ0.out
      obtain ⟨A1, A2, A3, R, f1, f2, f3, f4, hR⟩ := words_of (V := V) (q := q0) (U := N) (u := L0) nV nl0 nN (by rw [HN.out.2.1]; exact HQ0.out)
      have FD := Box.mk (fin_div (X := hi * 18446744073709551616 + lo) (by omega) HN.out.1 HN.out.2.2 HQ.out.1 HQ.out.2 (by rw [HN.out.2.1]; exact HQ0.out) hR)
      clear hR HU
      obtain ⟨RS, hRS⟩ : ∃ RS, RS = R / 2 ^ s := ⟨_, rfl⟩
      have hRs : ((R : Int) / 2 ^ s) = (RS : Int) := by rw [hRS]; push_cast; rfl
      have FE : Box ((hi * 18446744073709551616 + lo) / y = q1 * 4294967296 + q0 ∧ (hi * 18446744073709551616 + lo) % y = RS) := ⟨⟨FD.out.1, by rw [hRS]; exact FD.out.2⟩⟩
      clear FD hRS
      go_wp2
      go_ret2
      exact ⟨by rw [FE.out.1, FE.out.2]; simp, rfl⟩
end
end Go.Proofs.YthoibeajhdhdhaaDoor
