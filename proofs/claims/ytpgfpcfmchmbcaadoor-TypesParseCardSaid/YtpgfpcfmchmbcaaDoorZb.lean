/- Text of every valid unit. -/
import Derived.Test.YtpgfpcfmchmbcaaDoorZa
import Derived.Laws.Concat
set_option linter.unusedVariables false
set_option linter.unusedSimpArgs false
namespace Go.Proofs.YtpgfpcfmchmbcaaDoor
open Go.RowKit

def bs (l : List UInt8) : ByteArray := ⟨l.toArray⟩
theorem bs_size (l : List UInt8) : (bs l).size = l.length := by show l.toArray.size = _; simp
theorem bs_app (a b : List UInt8) : bs a ++ bs b = bs (a ++ b) := by
  unfold bs; apply ByteArray.ext; simp
theorem bs_toL (l : List UInt8) : (bs l).toList = l := by
  have : (bs l).toList = (bs l).data.toList := ByteArray.toList_eq _
  rw [this]; simp [bs]
def nmU : Nat → List UInt8
  | 0 => [105, 116, 101, 109]
  | 1 => [98, 121, 116, 101]
  | _ => [116, 105, 99, 107]
def prt (i : Nat) (n : Int) : List UInt8 := nmU i ++ (if n = 2 ∨ n = -2 then [94, 50] else if n = 3 ∨ n = -3 then [94, 51] else [])
/-- one exponent more: what stands above, what stands below -/
def stp (i : Nat) (n : Int) (s : List UInt8 × List UInt8) : List UInt8 × List UInt8 :=
  if n < 0 then (s.1, s.2 ++ 47 :: prt i n) else if 0 < n then (if s.1 = [] then (prt i n, s.2) else (s.1 ++ 42 :: prt i n, s.2)) else s
def st3 (a b c : Int) : Nat → List UInt8 × List UInt8
  | 0 => ([], [])
  | 1 => stp 0 a ([], [])
  | 2 => stp 1 b (stp 0 a ([], []))
  | _ => stp 2 c (stp 1 b (stp 0 a ([], [])))
theorem prt_len (i : Nat) (n : Int) : (prt i n).length ≤ 6 := by
  unfold prt nmU; split <;> (split <;> (try split) <;> simp)
theorem stp_len (i : Nat) (n : Int) (s : List UInt8 × List UInt8) (k : Nat) (h : s.1.length ≤ k ∧ s.2.length ≤ k) : (stp i n s).1.length ≤ k + 7 ∧ (stp i n s).2.length ≤ k + 7 := by
  have := prt_len i n
  unfold stp
  split
  · simp; omega
  · split
    · split <;> simp <;> omega
    · omega
theorem st3_len (a b c : Int) (k : Nat) : (st3 a b c k).1.length ≤ 21 ∧ (st3 a b c k).2.length ≤ 21 := by
  have h1 := stp_len 0 a ([], []) 0 (by simp)
  have h2 := stp_len 1 b _ 7 h1
  have h3 := stp_len 2 c _ 14 h2
  match k with
  | 0 => simp [st3]
  | 1 => simp only [st3]; omega
  | 2 => simp only [st3]; omega
  | k + 3 => exact h3
def TRel (a b c : Int) (x y v : Value) : Prop := ∃ k : Nat, k ≤ 3 ∧ v = .int .i64 (k : Nat) ∧ x = .string (bs (st3 a b c k).1) ∧ y = .string (bs (st3 a b c k).2)
theorem seven {n : Int} (h1 : -3 ≤ n) (h2 : n ≤ 3) : n = -3 ∨ n = -2 ∨ n = -1 ∨ n = 0 ∨ n = 1 ∨ n = 2 ∨ n = 3 := by omega

theorem st3_0 (a b c : Int) : st3 a b c 1 = stp 0 a (st3 a b c 0) := rfl
theorem st3_1 (a b c : Int) : st3 a b c 2 = stp 1 b (st3 a b c 1) := rfl
theorem st3_2 (a b c : Int) : st3 a b c 3 = stp 2 c (st3 a b c 2) := rfl
set_option maxHeartbeats 8000000 in
set_option maxRecDepth 100000 in
theorem text_any (a b c : Int) (w : World) (hw : WordsW w) (a1 : -3 ≤ a) (a2 : a ≤ 3) (b1 : -3 ≤ b) (b2 : b ≤ 3) (c1 : -3 ≤ c) (c2 : c ≤ 3) :
    Calls Tryd.prog 7 #[uv a b c] w (RetB (.string (bs ((if (st3 a b c 3).1 = [] then [49] else (st3 a b c 3).1) ++ (st3 a b c 3).2))) w) := by
  have HW := Box.mk hw; clear hw
  generalize hr : bs ((if (st3 a b c 3).1 = [] then [49] else (st3 a b c 3).1) ++ (st3 a b c 3).2) = res
  have HR := Box.mk hr; clear hr
  have i0 := ix0 a b c; have i1 := ix1 a b c; have i2 := ix2 a b c
  go_enter Tryd.func7, Tryd.ntmps7
  go_wp2_with fail
  refine (uvalid_any _ _ _ _ (by omega)).mono ?_
  rintro e w1 ⟨rfl, hb⟩
  have HB : Hid (Below w.heap.size w w1 ∧ Blk w1 w.heap.size 23 #[.int .i64 a, .int .i64 b, .int .i64 c]) := ⟨bthen (bel1 _ _) hb (Nat.le_refl _), (Blk.new _ _ _).below hb⟩
  clear hb
  obtain ⟨p0, p1, p2⟩ := HB.out.2.c3
  obtain ⟨q0, q1, q2⟩ := (HW.out.below HB.out.1).units
  go_wp2_with fail
  go_loop [3, 4, 12] (fun x y v => TRel a b c x y v) (fun _ _ v => (3 - intOf v).toNat)
  case atStart => exact ⟨0, by omega, rfl, rfl, rfl⟩
  case round =>
    obtain ⟨k, hk, rfl, rfl, rfl⟩ := hrel
    have hlen := st3_len a b c k
    have hk4 : k = 0 ∨ k = 1 ∨ k = 2 ∨ k = 3 := by omega
    rcases hk4 with rfl | rfl | rfl | rfl
    · have HN := Box.mk (st3_0 a b c)
      generalize st3 a b c 0 = st at *
      obtain ⟨la, lb⟩ := st
      simp only at hlen
      rcases seven a1 a2 with rfl | rfl | rfl | rfl | rfl | rfl | rfl
      · have z1 : ¬ 9223372036854775807 < (bs lb).size + 7 := by rw [bs_size]; omega
        go_wp2_with (go_at_call 17; refine (itoa3 _).mono ?_; rintro e w5 ⟨rfl, rfl⟩)
        go_round
        case rel => exact ⟨1, by omega, rfl, by rw [HN.out]; rfl, by rw [HN.out]; exact congrArg Value.string (by show bs lb ++ (bs [47] ++ (bs [105, 116, 101, 109] ++ (bs [94] ++ bs [51]))) = bs (lb ++ 47 :: [105, 116, 101, 109, 94, 51]); rw [bs_app, bs_app, bs_app, bs_app]; rfl)⟩
        case measure => decide
      · have z1 : ¬ 9223372036854775807 < (bs lb).size + 7 := by rw [bs_size]; omega
        go_wp2_with (go_at_call 17; refine (itoa2 _).mono ?_; rintro e w5 ⟨rfl, rfl⟩)
        go_round
        case rel => exact ⟨1, by omega, rfl, by rw [HN.out]; rfl, by rw [HN.out]; exact congrArg Value.string (by show bs lb ++ (bs [47] ++ (bs [105, 116, 101, 109] ++ (bs [94] ++ bs [50]))) = bs (lb ++ 47 :: [105, 116, 101, 109, 94, 50]); rw [bs_app, bs_app, bs_app, bs_app]; rfl)⟩
        case measure => decide
      · have z1 : ¬ 9223372036854775807 < (bs lb).size + 5 := by rw [bs_size]; omega
        go_wp2_with fail
        go_round
        case rel => exact ⟨1, by omega, rfl, by rw [HN.out]; rfl, by rw [HN.out]; exact congrArg Value.string (by show bs lb ++ (bs [47] ++ bs [105, 116, 101, 109]) = bs (lb ++ 47 :: [105, 116, 101, 109]); rw [bs_app, bs_app]; rfl)⟩
        case measure => decide
      · go_wp2_with fail
        go_round
        case rel => exact ⟨1, by omega, rfl, by rw [HN.out]; rfl, by rw [HN.out]; rfl⟩
        case measure => decide
      · by_cases hla : la = []
        · subst hla
          have z0 : (bs []).toList.isEmpty = true := by rw [bs_toL]; rfl
          go_wp2_with fail
          go_round
          case rel => exact ⟨1, by omega, rfl, by rw [HN.out]; rfl, by rw [HN.out]; rfl⟩
          case measure => decide
        · have z0 : (bs la).toList.isEmpty = false := by rw [bs_toL]; simp [hla]
          have z1 : ¬ 9223372036854775807 < (bs la).size + 5 := by rw [bs_size]; omega
          have z2 : stp 0 1 (la, lb) = (la ++ 42 :: [105, 116, 101, 109], lb) := by unfold stp; rw [if_neg (by decide), if_pos (by decide), if_neg hla]; rfl
          rw [z2] at HN
          go_wp2_with fail
          go_round
          case rel => exact ⟨1, by omega, rfl, by rw [HN.out]; exact congrArg Value.string (by show bs la ++ (bs [42] ++ bs [105, 116, 101, 109]) = bs (la ++ 42 :: [105, 116, 101, 109]); rw [bs_app, bs_app]; rfl), by rw [HN.out]⟩
          case measure => decide
      · by_cases hla : la = []
        · subst hla
          have z0 : (bs []).toList.isEmpty = true := by rw [bs_toL]; rfl
          go_wp2_with (go_at_call 17; refine (itoa2 _).mono ?_; rintro e w5 ⟨rfl, rfl⟩)
          go_round
          case rel => exact ⟨1, by omega, rfl, by rw [HN.out]; exact congrArg Value.string (by show (bs [105, 116, 101, 109] ++ (bs [94] ++ bs [50])) = bs [105, 116, 101, 109, 94, 50]; rw [bs_app, bs_app]; rfl), by rw [HN.out]; rfl⟩
          case measure => decide
        · have z0 : (bs la).toList.isEmpty = false := by rw [bs_toL]; simp [hla]
          have z1 : ¬ 9223372036854775807 < (bs la).size + 7 := by rw [bs_size]; omega
          have z2 : stp 0 2 (la, lb) = (la ++ 42 :: [105, 116, 101, 109, 94, 50], lb) := by unfold stp; rw [if_neg (by decide), if_pos (by decide), if_neg hla]; rfl
          rw [z2] at HN
          go_wp2_with (go_at_call 17; refine (itoa2 _).mono ?_; rintro e w5 ⟨rfl, rfl⟩)
          go_round
          case rel => exact ⟨1, by omega, rfl, by rw [HN.out]; exact congrArg Value.string (by show bs la ++ (bs [42] ++ (bs [105, 116, 101, 109] ++ (bs [94] ++ bs [50]))) = bs (la ++ 42 :: [105, 116, 101, 109, 94, 50]); rw [bs_app, bs_app, bs_app, bs_app]; rfl), by rw [HN.out]⟩
          case measure => decide
      · by_cases hla : la = []
        · subst hla
          have z0 : (bs []).toList.isEmpty = true := by rw [bs_toL]; rfl
          go_wp2_with (go_at_call 17; refine (itoa3 _).mono ?_; rintro e w5 ⟨rfl, rfl⟩)
          go_round
          case rel => exact ⟨1, by omega, rfl, by rw [HN.out]; exact congrArg Value.string (by show (bs [105, 116, 101, 109] ++ (bs [94] ++ bs [51])) = bs [105, 116, 101, 109, 94, 51]; rw [bs_app, bs_app]; rfl), by rw [HN.out]; rfl⟩
          case measure => decide
        · have z0 : (bs la).toList.isEmpty = false := by rw [bs_toL]; simp [hla]
          have z1 : ¬ 9223372036854775807 < (bs la).size + 7 := by rw [bs_size]; omega
          have z2 : stp 0 3 (la, lb) = (la ++ 42 :: [105, 116, 101, 109, 94, 51], lb) := by unfold stp; rw [if_neg (by decide), if_pos (by decide), if_neg hla]; rfl
          rw [z2] at HN
          go_wp2_with (go_at_call 17; refine (itoa3 _).mono ?_; rintro e w5 ⟨rfl, rfl⟩)
          go_round
          case rel => exact ⟨1, by omega, rfl, by rw [HN.out]; exact congrArg Value.string (by show bs la ++ (bs [42] ++ (bs [105, 116, 101, 109] ++ (bs [94] ++ bs [51]))) = bs (la ++ 42 :: [105, 116, 101, 109, 94, 51]); rw [bs_app, bs_app, bs_app, bs_app]; rfl), by rw [HN.out]⟩
          case measure => decide
    · have HN := Box.mk (st3_1 a b c)
      generalize st3 a b c 1 = st at *
      obtain ⟨la, lb⟩ := st
      simp only at hlen
      rcases seven b1 b2 with rfl | rfl | rfl | rfl | rfl | rfl | rfl
      · have z1 : ¬ 9223372036854775807 < (bs lb).size + 7 := by rw [bs_size]; omega
        go_wp2_with (go_at_call 17; refine (itoa3 _).mono ?_; rintro e w5 ⟨rfl, rfl⟩)
        go_round
        case rel => exact ⟨2, by omega, rfl, by rw [HN.out]; rfl, by rw [HN.out]; exact congrArg Value.string (by show bs lb ++ (bs [47] ++ (bs [98, 121, 116, 101] ++ (bs [94] ++ bs [51]))) = bs (lb ++ 47 :: [98, 121, 116, 101, 94, 51]); rw [bs_app, bs_app, bs_app, bs_app]; rfl)⟩
        case measure => decide
      · have z1 : ¬ 9223372036854775807 < (bs lb).size + 7 := by rw [bs_size]; omega
        go_wp2_with (go_at_call 17; refine (itoa2 _).mono ?_; rintro e w5 ⟨rfl, rfl⟩)
        go_round
        case rel => exact ⟨2, by omega, rfl, by rw [HN.out]; rfl, by rw [HN.out]; exact congrArg Value.string (by show bs lb ++ (bs [47] ++ (bs [98, 121, 116, 101] ++ (bs [94] ++ bs [50]))) = bs (lb ++ 47 :: [98, 121, 116, 101, 94, 50]); rw [bs_app, bs_app, bs_app, bs_app]; rfl)⟩
        case measure => decide
      · have z1 : ¬ 9223372036854775807 < (bs lb).size + 5 := by rw [bs_size]; omega
        go_wp2_with fail
        go_round
        case rel => exact ⟨2, by omega, rfl, by rw [HN.out]; rfl, by rw [HN.out]; exact congrArg Value.string (by show bs lb ++ (bs [47] ++ bs [98, 121, 116, 101]) = bs (lb ++ 47 :: [98, 121, 116, 101]); rw [bs_app, bs_app]; rfl)⟩
        case measure => decide
      · go_wp2_with fail
        go_round
        case rel => exact ⟨2, by omega, rfl, by rw [HN.out]; rfl, by rw [HN.out]; rfl⟩
        case measure => decide
      · by_cases hla : la = []
        · subst hla
          have z0 : (bs []).toList.isEmpty = true := by rw [bs_toL]; rfl
          go_wp2_with fail
          go_round
          case rel => exact ⟨2, by omega, rfl, by rw [HN.out]; rfl, by rw [HN.out]; rfl⟩
          case measure => decide
        · have z0 : (bs la).toList.isEmpty = false := by rw [bs_toL]; simp [hla]
          have z1 : ¬ 9223372036854775807 < (bs la).size + 5 := by rw [bs_size]; omega
          have z2 : stp 1 1 (la, lb) = (la ++ 42 :: [98, 121, 116, 101], lb) := by unfold stp; rw [if_neg (by decide), if_pos (by decide), if_neg hla]; rfl
          rw [z2] at HN
          go_wp2_with fail
          go_round
          case rel => exact ⟨2, by omega, rfl, by rw [HN.out]; exact congrArg Value.string (by show bs la ++ (bs [42] ++ bs [98, 121, 116, 101]) = bs (la ++ 42 :: [98, 121, 116, 101]); rw [bs_app, bs_app]; rfl), by rw [HN.out]⟩
          case measure => decide
      · by_cases hla : la = []
        · subst hla
          have z0 : (bs []).toList.isEmpty = true := by rw [bs_toL]; rfl
          go_wp2_with (go_at_call 17; refine (itoa2 _).mono ?_; rintro e w5 ⟨rfl, rfl⟩)
          go_round
          case rel => exact ⟨2, by omega, rfl, by rw [HN.out]; exact congrArg Value.string (by show (bs [98, 121, 116, 101] ++ (bs [94] ++ bs [50])) = bs [98, 121, 116, 101, 94, 50]; rw [bs_app, bs_app]; rfl), by rw [HN.out]; rfl⟩
          case measure => decide
        · have z0 : (bs la).toList.isEmpty = false := by rw [bs_toL]; simp [hla]
          have z1 : ¬ 9223372036854775807 < (bs la).size + 7 := by rw [bs_size]; omega
          have z2 : stp 1 2 (la, lb) = (la ++ 42 :: [98, 121, 116, 101, 94, 50], lb) := by unfold stp; rw [if_neg (by decide), if_pos (by decide), if_neg hla]; rfl
          rw [z2] at HN
          go_wp2_with (go_at_call 17; refine (itoa2 _).mono ?_; rintro e w5 ⟨rfl, rfl⟩)
          go_round
          case rel => exact ⟨2, by omega, rfl, by rw [HN.out]; exact congrArg Value.string (by show bs la ++ (bs [42] ++ (bs [98, 121, 116, 101] ++ (bs [94] ++ bs [50]))) = bs (la ++ 42 :: [98, 121, 116, 101, 94, 50]); rw [bs_app, bs_app, bs_app, bs_app]; rfl), by rw [HN.out]⟩
          case measure => decide
      · by_cases hla : la = []
        · subst hla
          have z0 : (bs []).toList.isEmpty = true := by rw [bs_toL]; rfl
          go_wp2_with (go_at_call 17; refine (itoa3 _).mono ?_; rintro e w5 ⟨rfl, rfl⟩)
          go_round
          case rel => exact ⟨2, by omega, rfl, by rw [HN.out]; exact congrArg Value.string (by show (bs [98, 121, 116, 101] ++ (bs [94] ++ bs [51])) = bs [98, 121, 116, 101, 94, 51]; rw [bs_app, bs_app]; rfl), by rw [HN.out]; rfl⟩
          case measure => decide
        · have z0 : (bs la).toList.isEmpty = false := by rw [bs_toL]; simp [hla]
          have z1 : ¬ 9223372036854775807 < (bs la).size + 7 := by rw [bs_size]; omega
          have z2 : stp 1 3 (la, lb) = (la ++ 42 :: [98, 121, 116, 101, 94, 51], lb) := by unfold stp; rw [if_neg (by decide), if_pos (by decide), if_neg hla]; rfl
          rw [z2] at HN
          go_wp2_with (go_at_call 17; refine (itoa3 _).mono ?_; rintro e w5 ⟨rfl, rfl⟩)
          go_round
          case rel => exact ⟨2, by omega, rfl, by rw [HN.out]; exact congrArg Value.string (by show bs la ++ (bs [42] ++ (bs [98, 121, 116, 101] ++ (bs [94] ++ bs [51]))) = bs (la ++ 42 :: [98, 121, 116, 101, 94, 51]); rw [bs_app, bs_app, bs_app, bs_app]; rfl), by rw [HN.out]⟩
          case measure => decide
    · have HN := Box.mk (st3_2 a b c)
      generalize st3 a b c 2 = st at *
      obtain ⟨la, lb⟩ := st
      simp only at hlen
      rcases seven c1 c2 with rfl | rfl | rfl | rfl | rfl | rfl | rfl
      · have z1 : ¬ 9223372036854775807 < (bs lb).size + 7 := by rw [bs_size]; omega
        go_wp2_with (go_at_call 17; refine (itoa3 _).mono ?_; rintro e w5 ⟨rfl, rfl⟩)
        go_round
        case rel => exact ⟨3, by omega, rfl, by rw [HN.out]; rfl, by rw [HN.out]; exact congrArg Value.string (by show bs lb ++ (bs [47] ++ (bs [116, 105, 99, 107] ++ (bs [94] ++ bs [51]))) = bs (lb ++ 47 :: [116, 105, 99, 107, 94, 51]); rw [bs_app, bs_app, bs_app, bs_app]; rfl)⟩
        case measure => decide
      · have z1 : ¬ 9223372036854775807 < (bs lb).size + 7 := by rw [bs_size]; omega
        go_wp2_with (go_at_call 17; refine (itoa2 _).mono ?_; rintro e w5 ⟨rfl, rfl⟩)
        go_round
        case rel => exact ⟨3, by omega, rfl, by rw [HN.out]; rfl, by rw [HN.out]; exact congrArg Value.string (by show bs lb ++ (bs [47] ++ (bs [116, 105, 99, 107] ++ (bs [94] ++ bs [50]))) = bs (lb ++ 47 :: [116, 105, 99, 107, 94, 50]); rw [bs_app, bs_app, bs_app, bs_app]; rfl)⟩
        case measure => decide
      · have z1 : ¬ 9223372036854775807 < (bs lb).size + 5 := by rw [bs_size]; omega
        go_wp2_with fail
        go_round
        case rel => exact ⟨3, by omega, rfl, by rw [HN.out]; rfl, by rw [HN.out]; exact congrArg Value.string (by show bs lb ++ (bs [47] ++ bs [116, 105, 99, 107]) = bs (lb ++ 47 :: [116, 105, 99, 107]); rw [bs_app, bs_app]; rfl)⟩
        case measure => decide
      · go_wp2_with fail
        go_round
        case rel => exact ⟨3, by omega, rfl, by rw [HN.out]; rfl, by rw [HN.out]; rfl⟩
        case measure => decide
      · by_cases hla : la = []
        · subst hla
          have z0 : (bs []).toList.isEmpty = true := by rw [bs_toL]; rfl
          go_wp2_with fail
          go_round
          case rel => exact ⟨3, by omega, rfl, by rw [HN.out]; rfl, by rw [HN.out]; rfl⟩
          case measure => decide
        · have z0 : (bs la).toList.isEmpty = false := by rw [bs_toL]; simp [hla]
          have z1 : ¬ 9223372036854775807 < (bs la).size + 5 := by rw [bs_size]; omega
          have z2 : stp 2 1 (la, lb) = (la ++ 42 :: [116, 105, 99, 107], lb) := by unfold stp; rw [if_neg (by decide), if_pos (by decide), if_neg hla]; rfl
          rw [z2] at HN
          go_wp2_with fail
          go_round
          case rel => exact ⟨3, by omega, rfl, by rw [HN.out]; exact congrArg Value.string (by show bs la ++ (bs [42] ++ bs [116, 105, 99, 107]) = bs (la ++ 42 :: [116, 105, 99, 107]); rw [bs_app, bs_app]; rfl), by rw [HN.out]⟩
          case measure => decide
      · by_cases hla : la = []
        · subst hla
          have z0 : (bs []).toList.isEmpty = true := by rw [bs_toL]; rfl
          go_wp2_with (go_at_call 17; refine (itoa2 _).mono ?_; rintro e w5 ⟨rfl, rfl⟩)
          go_round
          case rel => exact ⟨3, by omega, rfl, by rw [HN.out]; exact congrArg Value.string (by show (bs [116, 105, 99, 107] ++ (bs [94] ++ bs [50])) = bs [116, 105, 99, 107, 94, 50]; rw [bs_app, bs_app]; rfl), by rw [HN.out]; rfl⟩
          case measure => decide
        · have z0 : (bs la).toList.isEmpty = false := by rw [bs_toL]; simp [hla]
          have z1 : ¬ 9223372036854775807 < (bs la).size + 7 := by rw [bs_size]; omega
          have z2 : stp 2 2 (la, lb) = (la ++ 42 :: [116, 105, 99, 107, 94, 50], lb) := by unfold stp; rw [if_neg (by decide), if_pos (by decide), if_neg hla]; rfl
          rw [z2] at HN
          go_wp2_with (go_at_call 17; refine (itoa2 _).mono ?_; rintro e w5 ⟨rfl, rfl⟩)
          go_round
          case rel => exact ⟨3, by omega, rfl, by rw [HN.out]; exact congrArg Value.string (by show bs la ++ (bs [42] ++ (bs [116, 105, 99, 107] ++ (bs [94] ++ bs [50]))) = bs (la ++ 42 :: [116, 105, 99, 107, 94, 50]); rw [bs_app, bs_app, bs_app, bs_app]; rfl), by rw [HN.out]⟩
          case measure => decide
      · by_cases hla : la = []
        · subst hla
          have z0 : (bs []).toList.isEmpty = true := by rw [bs_toL]; rfl
          go_wp2_with (go_at_call 17; refine (itoa3 _).mono ?_; rintro e w5 ⟨rfl, rfl⟩)
          go_round
          case rel => exact ⟨3, by omega, rfl, by rw [HN.out]; exact congrArg Value.string (by show (bs [116, 105, 99, 107] ++ (bs [94] ++ bs [51])) = bs [116, 105, 99, 107, 94, 51]; rw [bs_app, bs_app]; rfl), by rw [HN.out]; rfl⟩
          case measure => decide
        · have z0 : (bs la).toList.isEmpty = false := by rw [bs_toL]; simp [hla]
          have z1 : ¬ 9223372036854775807 < (bs la).size + 7 := by rw [bs_size]; omega
          have z2 : stp 2 3 (la, lb) = (la ++ 42 :: [116, 105, 99, 107, 94, 51], lb) := by unfold stp; rw [if_neg (by decide), if_pos (by decide), if_neg hla]; rfl
          rw [z2] at HN
          go_wp2_with (go_at_call 17; refine (itoa3 _).mono ?_; rintro e w5 ⟨rfl, rfl⟩)
          go_round
          case rel => exact ⟨3, by omega, rfl, by rw [HN.out]; exact congrArg Value.string (by show bs la ++ (bs [42] ++ (bs [116, 105, 99, 107] ++ (bs [94] ++ bs [51]))) = bs (la ++ 42 :: [116, 105, 99, 107, 94, 51]); rw [bs_app, bs_app, bs_app, bs_app]; rfl), by rw [HN.out]⟩
          case measure => decide
    · generalize st3 a b c 3 = st at *
      obtain ⟨la, lb⟩ := st
      simp only at hlen HR
      by_cases hla : la = []
      · subst hla
        have z0 : (bs []).toList.isEmpty = true := by rw [bs_toL]; rfl
        have z1 : ¬ 9223372036854775807 < 1 + (bs lb).size := by rw [bs_size]; omega
        have HR2 : Box (bs ([49] ++ lb) = res) := ⟨by rw [← HR.out, if_pos rfl]⟩
        clear HR
        go_wp2_with fail
        go_ret
        exact ⟨ret_str (by rw [← HR2.out]; exact bs_app [49] lb), HB.out.1⟩
      · have z0 : (bs la).toList.isEmpty = false := by rw [bs_toL]; simp [hla]
        have z1 : ¬ 9223372036854775807 < (bs la).size + (bs lb).size := by rw [bs_size, bs_size]; omega
        have HR2 : Box (bs (la ++ lb) = res) := ⟨by rw [← HR.out, if_neg hla]⟩
        clear HR hla
        go_wp2_with fail
        go_ret
        exact ⟨ret_str (by rw [← HR2.out]; exact bs_app la lb), HB.out.1⟩
end Go.Proofs.YtpgfpcfmchmbcaaDoor
