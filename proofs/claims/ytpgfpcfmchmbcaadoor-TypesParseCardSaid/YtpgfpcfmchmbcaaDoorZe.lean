/- The reference's Text of every valid unit. -/
import Derived.Test.YtpgfpcfmchmbcaaDoorZd
set_option linter.unusedVariables false
set_option linter.unusedSimpArgs false
namespace Go.Proofs.YtpgfpcfmchmbcaaDoor
open Go.RowKit

structure Z2 (w W : World) (G : Nat) (a b c : Int) : Prop where
  below : Below w.heap.size w W
  A : Blk W w.heap.size 23 #[.int .i64 a, .int .i64 b, .int .i64 c]
  N : Blk W G 9 #[.string (⟨#[105, 116, 101, 109]⟩ : ByteArray), .string (⟨#[98, 121, 116, 101]⟩ : ByteArray), .string (⟨#[116, 105, 99, 107]⟩ : ByteArray)]
theorem Z2.next {w W W' : World} {G : Nat} {a b c : Int} (h : Z2 w W G a b c) (hb : Below W.heap.size W W') : Z2 w W' G a b c := ⟨bthen h.below hb (Nat.le_refl _), h.A.below hb, h.N.below hb⟩
theorem stp_pos (i : Nat) {n : Int} (s : List UInt8 × List UInt8) (h : ¬ n < 0) : (stp i n s).2 = s.2 := by
  unfold stp; rw [if_neg h]; split
  · split <;> rfl
  · rfl
def R2 (w : World) (G : Nat) (a b c : Int) (hd : List UInt8) (x v : Value) (wr : World) : Prop := ∃ k : Nat, k ≤ 3 ∧ v = .int .i64 (k : Nat) ∧ x = .string (bs (hd ++ (st3 a b c k).2)) ∧ Z2 w wr G a b c
def R1 (w : World) (G : Nat) (a b c : Int) (x v : Value) (wr : World) : Prop := ∃ k : Nat, k ≤ 3 ∧ v = .int .i64 (k : Nat) ∧ x = .string (bs (st3 a b c k).1) ∧ Z2 w wr G a b c
set_option maxHeartbeats 8000000 in
set_option maxRecDepth 100000 in
theorem rtext_any (a b c : Int) (w : World) (a1 : -3 ≤ a) (a2 : a ≤ 3) (b1 : -3 ≤ b) (b2 : b ≤ 3) (c1 : -3 ≤ c) (c2 : c ≤ 3) :
    Calls Tryd.prog 11 #[uv a b c] w (RetB (.string (bs ((if (st3 a b c 3).1 = [] then [49] else (st3 a b c 3).1) ++ (st3 a b c 3).2))) w) := by
  generalize hr : bs ((if (st3 a b c 3).1 = [] then [49] else (st3 a b c 3).1) ++ (st3 a b c 3).2) = res
  have HR := Box.mk hr; clear hr
  have hin : inU a b c = true := by simp [inU, inR]; omega
  go_enter Tryd.func11, Tryd.ntmps11
  go_wp2_with fail
  refine (ruv_any _ _ _ _).mono ?_
  rintro e w1 ⟨rfl, hb⟩
  rw [hin]
  clear hin
  have HA : Hid (Below w.heap.size w w1 ∧ Blk w1 w.heap.size 23 #[.int .i64 a, .int .i64 b, .int .i64 c]) := ⟨bthen (bel1 _ _) hb (Nat.le_refl _), (Blk.new _ _ _).below hb⟩
  clear hb
  go_upto_region 4 with (fail)
  have HB : Hid (Z2 w (w1.alloc (.cells #[.string (⟨#[105, 116, 101, 109]⟩ : ByteArray), .string (⟨#[98, 121, 116, 101]⟩ : ByteArray), .string (⟨#[116, 105, 99, 107]⟩ : ByteArray)] 9)) w1.heap.size a b c) := ⟨HA.out.1.alloc HA.out.1.size _, HA.out.2.alloc _, Blk.new _ _ _⟩
  clear HA
  generalize w1.heap.size = G at *
  generalize w1.alloc (.cells #[.string (⟨#[105, 116, 101, 109]⟩ : ByteArray), .string (⟨#[98, 121, 116, 101]⟩ : ByteArray), .string (⟨#[116, 105, 99, 107]⟩ : ByteArray)] 9) = W at *
  go_wp2_with fail
  go_loopw [4, 5] (fun x v wr => R1 w G a b c x v wr) (fun _ v _ => (3 - intOf v).toNat)
  case atStart => exact ⟨0, by omega, rfl, rfl, HB.out⟩
  case round =>
    clear HB
    obtain ⟨k, hk, rfl, rfl, hZ⟩ := hrel
    have HB := Lib.hid hZ; clear hZ
    have hlen := st3_len a b c k
    obtain ⟨p0, p1, p2⟩ := HB.out.A.c3
    obtain ⟨q0, q1, q2⟩ := HB.out.N.c3
    have hk4 : k = 0 ∨ k = 1 ∨ k = 2 ∨ k = 3 := by omega
    rcases hk4 with rfl | rfl | rfl | rfl
    · have HN := Box.mk (st3_0 a b c)
      generalize st3 a b c 0 = st at *
      obtain ⟨la, lb⟩ := st
      simp only at hlen
      rcases seven a1 a2 with rfl | rfl | rfl | rfl | rfl | rfl | rfl
      · go_wp2_with fail
        go_roundw
        case rel => exact ⟨1, by omega, rfl, by rw [HN.out]; rfl, HB.out⟩
        case measure => decide
      · go_wp2_with fail
        go_roundw
        case rel => exact ⟨1, by omega, rfl, by rw [HN.out]; rfl, HB.out⟩
        case measure => decide
      · go_wp2_with fail
        go_roundw
        case rel => exact ⟨1, by omega, rfl, by rw [HN.out]; rfl, HB.out⟩
        case measure => decide
      · go_wp2_with fail
        go_roundw
        case rel => exact ⟨1, by omega, rfl, by rw [HN.out]; rfl, HB.out⟩
        case measure => decide
      · by_cases hla : la = []
        · subst hla
          have z0 : (bs []).toList.isEmpty = true := by rw [bs_toL]; rfl
          have z1 : ¬ 9223372036854775807 < (bs []).size + 4 := by rw [bs_size]; decide
          go_wp2_with fail
          go_region_held3 (fun w' => w'.cell? ⟨w.heap.size, 0, none⟩ = some (.int .i64 1) ∧ w'.cell? ⟨G, 0, none⟩ = some (.string (⟨#[105, 116, 101, 109]⟩ : ByteArray)))
            (first | exact ⟨p0, q0⟩ | go_keep)
            (first | (go_at_call 20; refine (rpow1 _ _).mono ?_; rintro e w5 ⟨rfl, rfl⟩))
          all_goals
            go_wp2_with fail
            go_roundw
            case rel => exact ⟨1, by omega, rfl, by rw [HN.out]; exact congrArg Value.string (by show bs [] ++ bs [105, 116, 101, 109] = bs [105, 116, 101, 109]; rw [bs_app]; rfl), HB.out.next (below_drewN _ 1)⟩
            case measure => decide
        · have z0 : (bs la).toList.isEmpty = false := by rw [bs_toL]; simp [hla]
          have z1 : ¬ 9223372036854775807 < (bs la).size + 1 := by rw [bs_size]; omega
          have z2 : ¬ 9223372036854775807 < (bs la).size + 1 + 4 := by rw [bs_size]; omega
          have z3 : stp 0 1 (la, lb) = (la ++ 42 :: [105, 116, 101, 109], lb) := by unfold stp; rw [if_neg (by decide), if_pos (by decide), if_neg hla]; rfl
          rw [z3] at HN
          go_wp2_with fail
          go_region_held3 (fun w' => w'.cell? ⟨w.heap.size, 0, none⟩ = some (.int .i64 1) ∧ w'.cell? ⟨G, 0, none⟩ = some (.string (⟨#[105, 116, 101, 109]⟩ : ByteArray)))
            (first | exact ⟨p0, q0⟩ | go_keep)
            (first | (go_at_call 20; refine (rpow1 _ _).mono ?_; rintro e w5 ⟨rfl, rfl⟩))
          all_goals
            go_wp2_with fail
            go_roundw
            case rel => exact ⟨1, by omega, rfl, by rw [HN.out]; exact congrArg Value.string (by show bs la ++ bs [42] ++ bs [105, 116, 101, 109] = bs (la ++ 42 :: [105, 116, 101, 109]); rw [bs_app, bs_app]; simp), HB.out.next (below_drewN _ 1)⟩
            case measure => decide
      · by_cases hla : la = []
        · subst hla
          have z0 : (bs []).toList.isEmpty = true := by rw [bs_toL]; rfl
          have z1 : ¬ 9223372036854775807 < (bs []).size + 6 := by rw [bs_size]; decide
          go_wp2_with fail
          go_region_held3 (fun w' => w'.cell? ⟨w.heap.size, 0, none⟩ = some (.int .i64 2) ∧ w'.cell? ⟨G, 0, none⟩ = some (.string (⟨#[105, 116, 101, 109]⟩ : ByteArray)))
            (first | exact ⟨p0, q0⟩ | go_keep)
            (first | (go_at_call 20; refine (rpow2 _ _ (by decide)).mono ?_; rintro e w5 ⟨rfl, rfl⟩))
          all_goals
            go_wp2_with fail
            go_roundw
            case rel => exact ⟨1, by omega, rfl, by rw [HN.out]; exact congrArg Value.string (by show bs [] ++ (bs [105, 116, 101, 109] ++ bs [94] ++ bs [50]) = bs [105, 116, 101, 109, 94, 50]; rw [bs_app, bs_app, bs_app]; rfl), HB.out.next (below_drewN _ 1)⟩
            case measure => decide
        · have z0 : (bs la).toList.isEmpty = false := by rw [bs_toL]; simp [hla]
          have z1 : ¬ 9223372036854775807 < (bs la).size + 1 := by rw [bs_size]; omega
          have z2 : ¬ 9223372036854775807 < (bs la).size + 1 + 6 := by rw [bs_size]; omega
          have z3 : stp 0 2 (la, lb) = (la ++ 42 :: [105, 116, 101, 109, 94, 50], lb) := by unfold stp; rw [if_neg (by decide), if_pos (by decide), if_neg hla]; rfl
          rw [z3] at HN
          go_wp2_with fail
          go_region_held3 (fun w' => w'.cell? ⟨w.heap.size, 0, none⟩ = some (.int .i64 2) ∧ w'.cell? ⟨G, 0, none⟩ = some (.string (⟨#[105, 116, 101, 109]⟩ : ByteArray)))
            (first | exact ⟨p0, q0⟩ | go_keep)
            (first | (go_at_call 20; refine (rpow2 _ _ (by decide)).mono ?_; rintro e w5 ⟨rfl, rfl⟩))
          all_goals
            go_wp2_with fail
            go_roundw
            case rel => exact ⟨1, by omega, rfl, by rw [HN.out]; exact congrArg Value.string (by show bs la ++ bs [42] ++ (bs [105, 116, 101, 109] ++ bs [94] ++ bs [50]) = bs (la ++ 42 :: [105, 116, 101, 109, 94, 50]); rw [bs_app, bs_app, bs_app, bs_app]; simp), HB.out.next (below_drewN _ 1)⟩
            case measure => decide
      · by_cases hla : la = []
        · subst hla
          have z0 : (bs []).toList.isEmpty = true := by rw [bs_toL]; rfl
          have z1 : ¬ 9223372036854775807 < (bs []).size + 6 := by rw [bs_size]; decide
          go_wp2_with fail
          go_region_held3 (fun w' => w'.cell? ⟨w.heap.size, 0, none⟩ = some (.int .i64 3) ∧ w'.cell? ⟨G, 0, none⟩ = some (.string (⟨#[105, 116, 101, 109]⟩ : ByteArray)))
            (first | exact ⟨p0, q0⟩ | go_keep)
            (first | (go_at_call 20; refine (rpow3 _ _ (by decide)).mono ?_; rintro e w5 ⟨rfl, rfl⟩))
          all_goals
            go_wp2_with fail
            go_roundw
            case rel => exact ⟨1, by omega, rfl, by rw [HN.out]; exact congrArg Value.string (by show bs [] ++ (bs [105, 116, 101, 109] ++ bs [94] ++ bs [51]) = bs [105, 116, 101, 109, 94, 51]; rw [bs_app, bs_app, bs_app]; rfl), HB.out.next (below_drewN _ 1)⟩
            case measure => decide
        · have z0 : (bs la).toList.isEmpty = false := by rw [bs_toL]; simp [hla]
          have z1 : ¬ 9223372036854775807 < (bs la).size + 1 := by rw [bs_size]; omega
          have z2 : ¬ 9223372036854775807 < (bs la).size + 1 + 6 := by rw [bs_size]; omega
          have z3 : stp 0 3 (la, lb) = (la ++ 42 :: [105, 116, 101, 109, 94, 51], lb) := by unfold stp; rw [if_neg (by decide), if_pos (by decide), if_neg hla]; rfl
          rw [z3] at HN
          go_wp2_with fail
          go_region_held3 (fun w' => w'.cell? ⟨w.heap.size, 0, none⟩ = some (.int .i64 3) ∧ w'.cell? ⟨G, 0, none⟩ = some (.string (⟨#[105, 116, 101, 109]⟩ : ByteArray)))
            (first | exact ⟨p0, q0⟩ | go_keep)
            (first | (go_at_call 20; refine (rpow3 _ _ (by decide)).mono ?_; rintro e w5 ⟨rfl, rfl⟩))
          all_goals
            go_wp2_with fail
            go_roundw
            case rel => exact ⟨1, by omega, rfl, by rw [HN.out]; exact congrArg Value.string (by show bs la ++ bs [42] ++ (bs [105, 116, 101, 109] ++ bs [94] ++ bs [51]) = bs (la ++ 42 :: [105, 116, 101, 109, 94, 51]); rw [bs_app, bs_app, bs_app, bs_app]; simp), HB.out.next (below_drewN _ 1)⟩
            case measure => decide
    · have HN := Box.mk (st3_1 a b c)
      generalize st3 a b c 1 = st at *
      obtain ⟨la, lb⟩ := st
      simp only at hlen
      rcases seven b1 b2 with rfl | rfl | rfl | rfl | rfl | rfl | rfl
      · go_wp2_with fail
        go_roundw
        case rel => exact ⟨2, by omega, rfl, by rw [HN.out]; rfl, HB.out⟩
        case measure => decide
      · go_wp2_with fail
        go_roundw
        case rel => exact ⟨2, by omega, rfl, by rw [HN.out]; rfl, HB.out⟩
        case measure => decide
      · go_wp2_with fail
        go_roundw
        case rel => exact ⟨2, by omega, rfl, by rw [HN.out]; rfl, HB.out⟩
        case measure => decide
      · go_wp2_with fail
        go_roundw
        case rel => exact ⟨2, by omega, rfl, by rw [HN.out]; rfl, HB.out⟩
        case measure => decide
      · by_cases hla : la = []
        · subst hla
          have z0 : (bs []).toList.isEmpty = true := by rw [bs_toL]; rfl
          have z1 : ¬ 9223372036854775807 < (bs []).size + 4 := by rw [bs_size]; decide
          go_wp2_with fail
          go_region_held3 (fun w' => w'.cell? ⟨w.heap.size, 1, none⟩ = some (.int .i64 1) ∧ w'.cell? ⟨G, 1, none⟩ = some (.string (⟨#[98, 121, 116, 101]⟩ : ByteArray)))
            (first | exact ⟨p1, q1⟩ | go_keep)
            (first | (go_at_call 20; refine (rpow1 _ _).mono ?_; rintro e w5 ⟨rfl, rfl⟩))
          all_goals
            go_wp2_with fail
            go_roundw
            case rel => exact ⟨2, by omega, rfl, by rw [HN.out]; exact congrArg Value.string (by show bs [] ++ bs [98, 121, 116, 101] = bs [98, 121, 116, 101]; rw [bs_app]; rfl), HB.out.next (below_drewN _ 1)⟩
            case measure => decide
        · have z0 : (bs la).toList.isEmpty = false := by rw [bs_toL]; simp [hla]
          have z1 : ¬ 9223372036854775807 < (bs la).size + 1 := by rw [bs_size]; omega
          have z2 : ¬ 9223372036854775807 < (bs la).size + 1 + 4 := by rw [bs_size]; omega
          have z3 : stp 1 1 (la, lb) = (la ++ 42 :: [98, 121, 116, 101], lb) := by unfold stp; rw [if_neg (by decide), if_pos (by decide), if_neg hla]; rfl
          rw [z3] at HN
          go_wp2_with fail
          go_region_held3 (fun w' => w'.cell? ⟨w.heap.size, 1, none⟩ = some (.int .i64 1) ∧ w'.cell? ⟨G, 1, none⟩ = some (.string (⟨#[98, 121, 116, 101]⟩ : ByteArray)))
            (first | exact ⟨p1, q1⟩ | go_keep)
            (first | (go_at_call 20; refine (rpow1 _ _).mono ?_; rintro e w5 ⟨rfl, rfl⟩))
          all_goals
            go_wp2_with fail
            go_roundw
            case rel => exact ⟨2, by omega, rfl, by rw [HN.out]; exact congrArg Value.string (by show bs la ++ bs [42] ++ bs [98, 121, 116, 101] = bs (la ++ 42 :: [98, 121, 116, 101]); rw [bs_app, bs_app]; simp), HB.out.next (below_drewN _ 1)⟩
            case measure => decide
      · by_cases hla : la = []
        · subst hla
          have z0 : (bs []).toList.isEmpty = true := by rw [bs_toL]; rfl
          have z1 : ¬ 9223372036854775807 < (bs []).size + 6 := by rw [bs_size]; decide
          go_wp2_with fail
          go_region_held3 (fun w' => w'.cell? ⟨w.heap.size, 1, none⟩ = some (.int .i64 2) ∧ w'.cell? ⟨G, 1, none⟩ = some (.string (⟨#[98, 121, 116, 101]⟩ : ByteArray)))
            (first | exact ⟨p1, q1⟩ | go_keep)
            (first | (go_at_call 20; refine (rpow2 _ _ (by decide)).mono ?_; rintro e w5 ⟨rfl, rfl⟩))
          all_goals
            go_wp2_with fail
            go_roundw
            case rel => exact ⟨2, by omega, rfl, by rw [HN.out]; exact congrArg Value.string (by show bs [] ++ (bs [98, 121, 116, 101] ++ bs [94] ++ bs [50]) = bs [98, 121, 116, 101, 94, 50]; rw [bs_app, bs_app, bs_app]; rfl), HB.out.next (below_drewN _ 1)⟩
            case measure => decide
        · have z0 : (bs la).toList.isEmpty = false := by rw [bs_toL]; simp [hla]
          have z1 : ¬ 9223372036854775807 < (bs la).size + 1 := by rw [bs_size]; omega
          have z2 : ¬ 9223372036854775807 < (bs la).size + 1 + 6 := by rw [bs_size]; omega
          have z3 : stp 1 2 (la, lb) = (la ++ 42 :: [98, 121, 116, 101, 94, 50], lb) := by unfold stp; rw [if_neg (by decide), if_pos (by decide), if_neg hla]; rfl
          rw [z3] at HN
          go_wp2_with fail
          go_region_held3 (fun w' => w'.cell? ⟨w.heap.size, 1, none⟩ = some (.int .i64 2) ∧ w'.cell? ⟨G, 1, none⟩ = some (.string (⟨#[98, 121, 116, 101]⟩ : ByteArray)))
            (first | exact ⟨p1, q1⟩ | go_keep)
            (first | (go_at_call 20; refine (rpow2 _ _ (by decide)).mono ?_; rintro e w5 ⟨rfl, rfl⟩))
          all_goals
            go_wp2_with fail
            go_roundw
            case rel => exact ⟨2, by omega, rfl, by rw [HN.out]; exact congrArg Value.string (by show bs la ++ bs [42] ++ (bs [98, 121, 116, 101] ++ bs [94] ++ bs [50]) = bs (la ++ 42 :: [98, 121, 116, 101, 94, 50]); rw [bs_app, bs_app, bs_app, bs_app]; simp), HB.out.next (below_drewN _ 1)⟩
            case measure => decide
      · by_cases hla : la = []
        · subst hla
          have z0 : (bs []).toList.isEmpty = true := by rw [bs_toL]; rfl
          have z1 : ¬ 9223372036854775807 < (bs []).size + 6 := by rw [bs_size]; decide
          go_wp2_with fail
          go_region_held3 (fun w' => w'.cell? ⟨w.heap.size, 1, none⟩ = some (.int .i64 3) ∧ w'.cell? ⟨G, 1, none⟩ = some (.string (⟨#[98, 121, 116, 101]⟩ : ByteArray)))
            (first | exact ⟨p1, q1⟩ | go_keep)
            (first | (go_at_call 20; refine (rpow3 _ _ (by decide)).mono ?_; rintro e w5 ⟨rfl, rfl⟩))
          all_goals
            go_wp2_with fail
            go_roundw
            case rel => exact ⟨2, by omega, rfl, by rw [HN.out]; exact congrArg Value.string (by show bs [] ++ (bs [98, 121, 116, 101] ++ bs [94] ++ bs [51]) = bs [98, 121, 116, 101, 94, 51]; rw [bs_app, bs_app, bs_app]; rfl), HB.out.next (below_drewN _ 1)⟩
            case measure => decide
        · have z0 : (bs la).toList.isEmpty = false := by rw [bs_toL]; simp [hla]
          have z1 : ¬ 9223372036854775807 < (bs la).size + 1 := by rw [bs_size]; omega
          have z2 : ¬ 9223372036854775807 < (bs la).size + 1 + 6 := by rw [bs_size]; omega
          have z3 : stp 1 3 (la, lb) = (la ++ 42 :: [98, 121, 116, 101, 94, 51], lb) := by unfold stp; rw [if_neg (by decide), if_pos (by decide), if_neg hla]; rfl
          rw [z3] at HN
          go_wp2_with fail
          go_region_held3 (fun w' => w'.cell? ⟨w.heap.size, 1, none⟩ = some (.int .i64 3) ∧ w'.cell? ⟨G, 1, none⟩ = some (.string (⟨#[98, 121, 116, 101]⟩ : ByteArray)))
            (first | exact ⟨p1, q1⟩ | go_keep)
            (first | (go_at_call 20; refine (rpow3 _ _ (by decide)).mono ?_; rintro e w5 ⟨rfl, rfl⟩))
          all_goals
            go_wp2_with fail
            go_roundw
            case rel => exact ⟨2, by omega, rfl, by rw [HN.out]; exact congrArg Value.string (by show bs la ++ bs [42] ++ (bs [98, 121, 116, 101] ++ bs [94] ++ bs [51]) = bs (la ++ 42 :: [98, 121, 116, 101, 94, 51]); rw [bs_app, bs_app, bs_app, bs_app]; simp), HB.out.next (below_drewN _ 1)⟩
            case measure => decide
    · have HN := Box.mk (st3_2 a b c)
      generalize st3 a b c 2 = st at *
      obtain ⟨la, lb⟩ := st
      simp only at hlen
      rcases seven c1 c2 with rfl | rfl | rfl | rfl | rfl | rfl | rfl
      · go_wp2_with fail
        go_roundw
        case rel => exact ⟨3, by omega, rfl, by rw [HN.out]; rfl, HB.out⟩
        case measure => decide
      · go_wp2_with fail
        go_roundw
        case rel => exact ⟨3, by omega, rfl, by rw [HN.out]; rfl, HB.out⟩
        case measure => decide
      · go_wp2_with fail
        go_roundw
        case rel => exact ⟨3, by omega, rfl, by rw [HN.out]; rfl, HB.out⟩
        case measure => decide
      · go_wp2_with fail
        go_roundw
        case rel => exact ⟨3, by omega, rfl, by rw [HN.out]; rfl, HB.out⟩
        case measure => decide
      · by_cases hla : la = []
        · subst hla
          have z0 : (bs []).toList.isEmpty = true := by rw [bs_toL]; rfl
          have z1 : ¬ 9223372036854775807 < (bs []).size + 4 := by rw [bs_size]; decide
          go_wp2_with fail
          go_region_held3 (fun w' => w'.cell? ⟨w.heap.size, 2, none⟩ = some (.int .i64 1) ∧ w'.cell? ⟨G, 2, none⟩ = some (.string (⟨#[116, 105, 99, 107]⟩ : ByteArray)))
            (first | exact ⟨p2, q2⟩ | go_keep)
            (first | (go_at_call 20; refine (rpow1 _ _).mono ?_; rintro e w5 ⟨rfl, rfl⟩))
          all_goals
            go_wp2_with fail
            go_roundw
            case rel => exact ⟨3, by omega, rfl, by rw [HN.out]; exact congrArg Value.string (by show bs [] ++ bs [116, 105, 99, 107] = bs [116, 105, 99, 107]; rw [bs_app]; rfl), HB.out.next (below_drewN _ 1)⟩
            case measure => decide
        · have z0 : (bs la).toList.isEmpty = false := by rw [bs_toL]; simp [hla]
          have z1 : ¬ 9223372036854775807 < (bs la).size + 1 := by rw [bs_size]; omega
          have z2 : ¬ 9223372036854775807 < (bs la).size + 1 + 4 := by rw [bs_size]; omega
          have z3 : stp 2 1 (la, lb) = (la ++ 42 :: [116, 105, 99, 107], lb) := by unfold stp; rw [if_neg (by decide), if_pos (by decide), if_neg hla]; rfl
          rw [z3] at HN
          go_wp2_with fail
          go_region_held3 (fun w' => w'.cell? ⟨w.heap.size, 2, none⟩ = some (.int .i64 1) ∧ w'.cell? ⟨G, 2, none⟩ = some (.string (⟨#[116, 105, 99, 107]⟩ : ByteArray)))
            (first | exact ⟨p2, q2⟩ | go_keep)
            (first | (go_at_call 20; refine (rpow1 _ _).mono ?_; rintro e w5 ⟨rfl, rfl⟩))
          all_goals
            go_wp2_with fail
            go_roundw
            case rel => exact ⟨3, by omega, rfl, by rw [HN.out]; exact congrArg Value.string (by show bs la ++ bs [42] ++ bs [116, 105, 99, 107] = bs (la ++ 42 :: [116, 105, 99, 107]); rw [bs_app, bs_app]; simp), HB.out.next (below_drewN _ 1)⟩
            case measure => decide
      · by_cases hla : la = []
        · subst hla
          have z0 : (bs []).toList.isEmpty = true := by rw [bs_toL]; rfl
          have z1 : ¬ 9223372036854775807 < (bs []).size + 6 := by rw [bs_size]; decide
          go_wp2_with fail
          go_region_held3 (fun w' => w'.cell? ⟨w.heap.size, 2, none⟩ = some (.int .i64 2) ∧ w'.cell? ⟨G, 2, none⟩ = some (.string (⟨#[116, 105, 99, 107]⟩ : ByteArray)))
            (first | exact ⟨p2, q2⟩ | go_keep)
            (first | (go_at_call 20; refine (rpow2 _ _ (by decide)).mono ?_; rintro e w5 ⟨rfl, rfl⟩))
          all_goals
            go_wp2_with fail
            go_roundw
            case rel => exact ⟨3, by omega, rfl, by rw [HN.out]; exact congrArg Value.string (by show bs [] ++ (bs [116, 105, 99, 107] ++ bs [94] ++ bs [50]) = bs [116, 105, 99, 107, 94, 50]; rw [bs_app, bs_app, bs_app]; rfl), HB.out.next (below_drewN _ 1)⟩
            case measure => decide
        · have z0 : (bs la).toList.isEmpty = false := by rw [bs_toL]; simp [hla]
          have z1 : ¬ 9223372036854775807 < (bs la).size + 1 := by rw [bs_size]; omega
          have z2 : ¬ 9223372036854775807 < (bs la).size + 1 + 6 := by rw [bs_size]; omega
          have z3 : stp 2 2 (la, lb) = (la ++ 42 :: [116, 105, 99, 107, 94, 50], lb) := by unfold stp; rw [if_neg (by decide), if_pos (by decide), if_neg hla]; rfl
          rw [z3] at HN
          go_wp2_with fail
          go_region_held3 (fun w' => w'.cell? ⟨w.heap.size, 2, none⟩ = some (.int .i64 2) ∧ w'.cell? ⟨G, 2, none⟩ = some (.string (⟨#[116, 105, 99, 107]⟩ : ByteArray)))
            (first | exact ⟨p2, q2⟩ | go_keep)
            (first | (go_at_call 20; refine (rpow2 _ _ (by decide)).mono ?_; rintro e w5 ⟨rfl, rfl⟩))
          all_goals
            go_wp2_with fail
            go_roundw
            case rel => exact ⟨3, by omega, rfl, by rw [HN.out]; exact congrArg Value.string (by show bs la ++ bs [42] ++ (bs [116, 105, 99, 107] ++ bs [94] ++ bs [50]) = bs (la ++ 42 :: [116, 105, 99, 107, 94, 50]); rw [bs_app, bs_app, bs_app, bs_app]; simp), HB.out.next (below_drewN _ 1)⟩
            case measure => decide
      · by_cases hla : la = []
        · subst hla
          have z0 : (bs []).toList.isEmpty = true := by rw [bs_toL]; rfl
          have z1 : ¬ 9223372036854775807 < (bs []).size + 6 := by rw [bs_size]; decide
          go_wp2_with fail
          go_region_held3 (fun w' => w'.cell? ⟨w.heap.size, 2, none⟩ = some (.int .i64 3) ∧ w'.cell? ⟨G, 2, none⟩ = some (.string (⟨#[116, 105, 99, 107]⟩ : ByteArray)))
            (first | exact ⟨p2, q2⟩ | go_keep)
            (first | (go_at_call 20; refine (rpow3 _ _ (by decide)).mono ?_; rintro e w5 ⟨rfl, rfl⟩))
          all_goals
            go_wp2_with fail
            go_roundw
            case rel => exact ⟨3, by omega, rfl, by rw [HN.out]; exact congrArg Value.string (by show bs [] ++ (bs [116, 105, 99, 107] ++ bs [94] ++ bs [51]) = bs [116, 105, 99, 107, 94, 51]; rw [bs_app, bs_app, bs_app]; rfl), HB.out.next (below_drewN _ 1)⟩
            case measure => decide
        · have z0 : (bs la).toList.isEmpty = false := by rw [bs_toL]; simp [hla]
          have z1 : ¬ 9223372036854775807 < (bs la).size + 1 := by rw [bs_size]; omega
          have z2 : ¬ 9223372036854775807 < (bs la).size + 1 + 6 := by rw [bs_size]; omega
          have z3 : stp 2 3 (la, lb) = (la ++ 42 :: [116, 105, 99, 107, 94, 51], lb) := by unfold stp; rw [if_neg (by decide), if_pos (by decide), if_neg hla]; rfl
          rw [z3] at HN
          go_wp2_with fail
          go_region_held3 (fun w' => w'.cell? ⟨w.heap.size, 2, none⟩ = some (.int .i64 3) ∧ w'.cell? ⟨G, 2, none⟩ = some (.string (⟨#[116, 105, 99, 107]⟩ : ByteArray)))
            (first | exact ⟨p2, q2⟩ | go_keep)
            (first | (go_at_call 20; refine (rpow3 _ _ (by decide)).mono ?_; rintro e w5 ⟨rfl, rfl⟩))
          all_goals
            go_wp2_with fail
            go_roundw
            case rel => exact ⟨3, by omega, rfl, by rw [HN.out]; exact congrArg Value.string (by show bs la ++ bs [42] ++ (bs [116, 105, 99, 107] ++ bs [94] ++ bs [51]) = bs (la ++ 42 :: [116, 105, 99, 107, 94, 51]); rw [bs_app, bs_app, bs_app, bs_app]; simp), HB.out.next (below_drewN _ 1)⟩
            case measure => decide
    · by_cases hla : (st3 a b c 3).1 = []
      · have HR2 : Box (bs ([49] ++ (st3 a b c 3).2) = res) := ⟨by rw [← HR.out, if_pos hla]⟩
        rw [hla]
        clear HR hla hlen
        have z0 : (bs []).toList.isEmpty = true := by rw [bs_toL]; rfl
        rw [show ((3 : Nat) : Int) = 3 from rfl]
        go_wp2_with fail
        go_loopw [4, 6] (fun x v wr => R2 w G a b c [49] x v wr) (fun _ v _ => (3 - intOf v).toNat)
        case atStart => exact ⟨0, by omega, rfl, by first | (simp [st3]; done) | (simp [st3]; rfl), HB.out⟩
        case round =>
          clear HB p0 p1 p2 q0 q1 q2
          obtain ⟨k, hk, rfl, hx, hZ⟩ := hrel
          obtain ⟨q, hq⟩ : ∃ q, bs ([49] ++ (st3 a b c k).2) = q := ⟨_, rfl⟩
          rw [hq] at hx
          subst hx
          have HQ := Box.mk hq; clear hq
          have HB := Lib.hid hZ; clear hZ
          have hlen2 := st3_len a b c k
          obtain ⟨p0, p1, p2⟩ := HB.out.A.c3
          obtain ⟨q0, q1, q2⟩ := HB.out.N.c3
          have hk4 : k = 0 ∨ k = 1 ∨ k = 2 ∨ k = 3 := by omega
          rcases hk4 with rfl | rfl | rfl | rfl
          · have HN := Box.mk (st3_0 a b c)
            generalize st3 a b c 0 = st at *
            obtain ⟨la2, lb2⟩ := st
            simp only at hlen2
            rcases seven a1 a2 with rfl | rfl | rfl | rfl | rfl | rfl | rfl
            · have z1 : ¬ 9223372036854775807 < q.size + 1 := by rw [← HQ.out, bs_size]; simp; omega
              have z2 : ¬ 9223372036854775807 < q.size + 1 + 6 := by rw [← HQ.out, bs_size]; simp; omega
              go_wp2_with fail
              go_region_held3 (fun w' => w'.cell? ⟨w.heap.size, 0, none⟩ = some (.int .i64 (-3)) ∧ w'.cell? ⟨G, 0, none⟩ = some (.string (⟨#[105, 116, 101, 109]⟩ : ByteArray)))
                (first | exact ⟨p0, q0⟩ | go_keep)
                (first | (go_at_call 20; refine (rpow3 _ _ (by decide)).mono ?_; rintro e w5 ⟨rfl, rfl⟩))
              all_goals
                go_wp2_with fail
                go_roundw
                case rel => exact ⟨1, by omega, rfl, by rw [HN.out]; exact congrArg Value.string (by show q ++ bs [47] ++ (bs [105, 116, 101, 109] ++ bs [94] ++ bs [51]) = bs ([49] ++ (lb2 ++ 47 :: [105, 116, 101, 109, 94, 51])); rw [← HQ.out]; rw [bs_app, bs_app, bs_app, bs_app]; simp), HB.out.next (below_drewN _ 1)⟩
                case measure => decide
            · have z1 : ¬ 9223372036854775807 < q.size + 1 := by rw [← HQ.out, bs_size]; simp; omega
              have z2 : ¬ 9223372036854775807 < q.size + 1 + 6 := by rw [← HQ.out, bs_size]; simp; omega
              go_wp2_with fail
              go_region_held3 (fun w' => w'.cell? ⟨w.heap.size, 0, none⟩ = some (.int .i64 (-2)) ∧ w'.cell? ⟨G, 0, none⟩ = some (.string (⟨#[105, 116, 101, 109]⟩ : ByteArray)))
                (first | exact ⟨p0, q0⟩ | go_keep)
                (first | (go_at_call 20; refine (rpow2 _ _ (by decide)).mono ?_; rintro e w5 ⟨rfl, rfl⟩))
              all_goals
                go_wp2_with fail
                go_roundw
                case rel => exact ⟨1, by omega, rfl, by rw [HN.out]; exact congrArg Value.string (by show q ++ bs [47] ++ (bs [105, 116, 101, 109] ++ bs [94] ++ bs [50]) = bs ([49] ++ (lb2 ++ 47 :: [105, 116, 101, 109, 94, 50])); rw [← HQ.out]; rw [bs_app, bs_app, bs_app, bs_app]; simp), HB.out.next (below_drewN _ 1)⟩
                case measure => decide
            · have z1 : ¬ 9223372036854775807 < q.size + 1 := by rw [← HQ.out, bs_size]; simp; omega
              have z2 : ¬ 9223372036854775807 < q.size + 1 + 4 := by rw [← HQ.out, bs_size]; simp; omega
              go_wp2_with fail
              go_region_held3 (fun w' => w'.cell? ⟨w.heap.size, 0, none⟩ = some (.int .i64 (-1)) ∧ w'.cell? ⟨G, 0, none⟩ = some (.string (⟨#[105, 116, 101, 109]⟩ : ByteArray)))
                (first | exact ⟨p0, q0⟩ | go_keep)
                (first | (go_at_call 20; refine (rpow1 _ _).mono ?_; rintro e w5 ⟨rfl, rfl⟩))
              all_goals
                go_wp2_with fail
                go_roundw
                case rel => exact ⟨1, by omega, rfl, by rw [HN.out]; exact congrArg Value.string (by show q ++ bs [47] ++ bs [105, 116, 101, 109] = bs ([49] ++ (lb2 ++ 47 :: [105, 116, 101, 109])); rw [← HQ.out]; rw [bs_app, bs_app]; simp), HB.out.next (below_drewN _ 1)⟩
                case measure => decide
            · go_wp2_with fail
              go_roundw
              case rel => exact ⟨1, by omega, rfl, by rw [HN.out, stp_pos _ _ (by decide), HQ.out], HB.out⟩
              case measure => decide
            · go_wp2_with fail
              go_roundw
              case rel => exact ⟨1, by omega, rfl, by rw [HN.out, stp_pos _ _ (by decide), HQ.out], HB.out⟩
              case measure => decide
            · go_wp2_with fail
              go_roundw
              case rel => exact ⟨1, by omega, rfl, by rw [HN.out, stp_pos _ _ (by decide), HQ.out], HB.out⟩
              case measure => decide
            · go_wp2_with fail
              go_roundw
              case rel => exact ⟨1, by omega, rfl, by rw [HN.out, stp_pos _ _ (by decide), HQ.out], HB.out⟩
              case measure => decide
          · have HN := Box.mk (st3_1 a b c)
            generalize st3 a b c 1 = st at *
            obtain ⟨la2, lb2⟩ := st
            simp only at hlen2
            rcases seven b1 b2 with rfl | rfl | rfl | rfl | rfl | rfl | rfl
            · have z1 : ¬ 9223372036854775807 < q.size + 1 := by rw [← HQ.out, bs_size]; simp; omega
              have z2 : ¬ 9223372036854775807 < q.size + 1 + 6 := by rw [← HQ.out, bs_size]; simp; omega
              go_wp2_with fail
              go_region_held3 (fun w' => w'.cell? ⟨w.heap.size, 1, none⟩ = some (.int .i64 (-3)) ∧ w'.cell? ⟨G, 1, none⟩ = some (.string (⟨#[98, 121, 116, 101]⟩ : ByteArray)))
                (first | exact ⟨p1, q1⟩ | go_keep)
                (first | (go_at_call 20; refine (rpow3 _ _ (by decide)).mono ?_; rintro e w5 ⟨rfl, rfl⟩))
              all_goals
                go_wp2_with fail
                go_roundw
                case rel => exact ⟨2, by omega, rfl, by rw [HN.out]; exact congrArg Value.string (by show q ++ bs [47] ++ (bs [98, 121, 116, 101] ++ bs [94] ++ bs [51]) = bs ([49] ++ (lb2 ++ 47 :: [98, 121, 116, 101, 94, 51])); rw [← HQ.out]; rw [bs_app, bs_app, bs_app, bs_app]; simp), HB.out.next (below_drewN _ 1)⟩
                case measure => decide
            · have z1 : ¬ 9223372036854775807 < q.size + 1 := by rw [← HQ.out, bs_size]; simp; omega
              have z2 : ¬ 9223372036854775807 < q.size + 1 + 6 := by rw [← HQ.out, bs_size]; simp; omega
              go_wp2_with fail
              go_region_held3 (fun w' => w'.cell? ⟨w.heap.size, 1, none⟩ = some (.int .i64 (-2)) ∧ w'.cell? ⟨G, 1, none⟩ = some (.string (⟨#[98, 121, 116, 101]⟩ : ByteArray)))
                (first | exact ⟨p1, q1⟩ | go_keep)
                (first | (go_at_call 20; refine (rpow2 _ _ (by decide)).mono ?_; rintro e w5 ⟨rfl, rfl⟩))
              all_goals
                go_wp2_with fail
                go_roundw
                case rel => exact ⟨2, by omega, rfl, by rw [HN.out]; exact congrArg Value.string (by show q ++ bs [47] ++ (bs [98, 121, 116, 101] ++ bs [94] ++ bs [50]) = bs ([49] ++ (lb2 ++ 47 :: [98, 121, 116, 101, 94, 50])); rw [← HQ.out]; rw [bs_app, bs_app, bs_app, bs_app]; simp), HB.out.next (below_drewN _ 1)⟩
                case measure => decide
            · have z1 : ¬ 9223372036854775807 < q.size + 1 := by rw [← HQ.out, bs_size]; simp; omega
              have z2 : ¬ 9223372036854775807 < q.size + 1 + 4 := by rw [← HQ.out, bs_size]; simp; omega
              go_wp2_with fail
              go_region_held3 (fun w' => w'.cell? ⟨w.heap.size, 1, none⟩ = some (.int .i64 (-1)) ∧ w'.cell? ⟨G, 1, none⟩ = some (.string (⟨#[98, 121, 116, 101]⟩ : ByteArray)))
                (first | exact ⟨p1, q1⟩ | go_keep)
                (first | (go_at_call 20; refine (rpow1 _ _).mono ?_; rintro e w5 ⟨rfl, rfl⟩))
              all_goals
                go_wp2_with fail
                go_roundw
                case rel => exact ⟨2, by omega, rfl, by rw [HN.out]; exact congrArg Value.string (by show q ++ bs [47] ++ bs [98, 121, 116, 101] = bs ([49] ++ (lb2 ++ 47 :: [98, 121, 116, 101])); rw [← HQ.out]; rw [bs_app, bs_app]; simp), HB.out.next (below_drewN _ 1)⟩
                case measure => decide
            · go_wp2_with fail
              go_roundw
              case rel => exact ⟨2, by omega, rfl, by rw [HN.out, stp_pos _ _ (by decide), HQ.out], HB.out⟩
              case measure => decide
            · go_wp2_with fail
              go_roundw
              case rel => exact ⟨2, by omega, rfl, by rw [HN.out, stp_pos _ _ (by decide), HQ.out], HB.out⟩
              case measure => decide
            · go_wp2_with fail
              go_roundw
              case rel => exact ⟨2, by omega, rfl, by rw [HN.out, stp_pos _ _ (by decide), HQ.out], HB.out⟩
              case measure => decide
            · go_wp2_with fail
              go_roundw
              case rel => exact ⟨2, by omega, rfl, by rw [HN.out, stp_pos _ _ (by decide), HQ.out], HB.out⟩
              case measure => decide
          · have HN := Box.mk (st3_2 a b c)
            generalize st3 a b c 2 = st at *
            obtain ⟨la2, lb2⟩ := st
            simp only at hlen2
            rcases seven c1 c2 with rfl | rfl | rfl | rfl | rfl | rfl | rfl
            · have z1 : ¬ 9223372036854775807 < q.size + 1 := by rw [← HQ.out, bs_size]; simp; omega
              have z2 : ¬ 9223372036854775807 < q.size + 1 + 6 := by rw [← HQ.out, bs_size]; simp; omega
              go_wp2_with fail
              go_region_held3 (fun w' => w'.cell? ⟨w.heap.size, 2, none⟩ = some (.int .i64 (-3)) ∧ w'.cell? ⟨G, 2, none⟩ = some (.string (⟨#[116, 105, 99, 107]⟩ : ByteArray)))
                (first | exact ⟨p2, q2⟩ | go_keep)
                (first | (go_at_call 20; refine (rpow3 _ _ (by decide)).mono ?_; rintro e w5 ⟨rfl, rfl⟩))
              all_goals
                go_wp2_with fail
                go_roundw
                case rel => exact ⟨3, by omega, rfl, by rw [HN.out]; exact congrArg Value.string (by show q ++ bs [47] ++ (bs [116, 105, 99, 107] ++ bs [94] ++ bs [51]) = bs ([49] ++ (lb2 ++ 47 :: [116, 105, 99, 107, 94, 51])); rw [← HQ.out]; rw [bs_app, bs_app, bs_app, bs_app]; simp), HB.out.next (below_drewN _ 1)⟩
                case measure => decide
            · have z1 : ¬ 9223372036854775807 < q.size + 1 := by rw [← HQ.out, bs_size]; simp; omega
              have z2 : ¬ 9223372036854775807 < q.size + 1 + 6 := by rw [← HQ.out, bs_size]; simp; omega
              go_wp2_with fail
              go_region_held3 (fun w' => w'.cell? ⟨w.heap.size, 2, none⟩ = some (.int .i64 (-2)) ∧ w'.cell? ⟨G, 2, none⟩ = some (.string (⟨#[116, 105, 99, 107]⟩ : ByteArray)))
                (first | exact ⟨p2, q2⟩ | go_keep)
                (first | (go_at_call 20; refine (rpow2 _ _ (by decide)).mono ?_; rintro e w5 ⟨rfl, rfl⟩))
              all_goals
                go_wp2_with fail
                go_roundw
                case rel => exact ⟨3, by omega, rfl, by rw [HN.out]; exact congrArg Value.string (by show q ++ bs [47] ++ (bs [116, 105, 99, 107] ++ bs [94] ++ bs [50]) = bs ([49] ++ (lb2 ++ 47 :: [116, 105, 99, 107, 94, 50])); rw [← HQ.out]; rw [bs_app, bs_app, bs_app, bs_app]; simp), HB.out.next (below_drewN _ 1)⟩
                case measure => decide
            · have z1 : ¬ 9223372036854775807 < q.size + 1 := by rw [← HQ.out, bs_size]; simp; omega
              have z2 : ¬ 9223372036854775807 < q.size + 1 + 4 := by rw [← HQ.out, bs_size]; simp; omega
              go_wp2_with fail
              go_region_held3 (fun w' => w'.cell? ⟨w.heap.size, 2, none⟩ = some (.int .i64 (-1)) ∧ w'.cell? ⟨G, 2, none⟩ = some (.string (⟨#[116, 105, 99, 107]⟩ : ByteArray)))
                (first | exact ⟨p2, q2⟩ | go_keep)
                (first | (go_at_call 20; refine (rpow1 _ _).mono ?_; rintro e w5 ⟨rfl, rfl⟩))
              all_goals
                go_wp2_with fail
                go_roundw
                case rel => exact ⟨3, by omega, rfl, by rw [HN.out]; exact congrArg Value.string (by show q ++ bs [47] ++ bs [116, 105, 99, 107] = bs ([49] ++ (lb2 ++ 47 :: [116, 105, 99, 107])); rw [← HQ.out]; rw [bs_app, bs_app]; simp), HB.out.next (below_drewN _ 1)⟩
                case measure => decide
            · go_wp2_with fail
              go_roundw
              case rel => exact ⟨3, by omega, rfl, by rw [HN.out, stp_pos _ _ (by decide), HQ.out], HB.out⟩
              case measure => decide
            · go_wp2_with fail
              go_roundw
              case rel => exact ⟨3, by omega, rfl, by rw [HN.out, stp_pos _ _ (by decide), HQ.out], HB.out⟩
              case measure => decide
            · go_wp2_with fail
              go_roundw
              case rel => exact ⟨3, by omega, rfl, by rw [HN.out, stp_pos _ _ (by decide), HQ.out], HB.out⟩
              case measure => decide
            · go_wp2_with fail
              go_roundw
              case rel => exact ⟨3, by omega, rfl, by rw [HN.out, stp_pos _ _ (by decide), HQ.out], HB.out⟩
              case measure => decide
          · generalize st3 a b c 3 = st at *
            obtain ⟨la2, lb2⟩ := st
            go_wp2_with fail
            go_ret
            exact ⟨ret_str (HQ.out.symm.trans HR2.out), HB.out.below⟩
      · have HR2 : Box (bs ((st3 a b c 3).1 ++ (st3 a b c 3).2) = res) := ⟨by rw [← HR.out, if_neg hla]⟩
        obtain ⟨hd, hhd⟩ : ∃ hd, (st3 a b c 3).1 = hd := ⟨_, rfl⟩
        rw [hhd] at HR2 hla hlen ⊢
        have z0 : (bs hd).toList.isEmpty = false := by rw [bs_toL]; simp [hla]
        have hl21 := hlen.1
        clear HR hla hlen hhd
        rw [show ((3 : Nat) : Int) = 3 from rfl]
        go_wp2_with fail
        go_loopw [4, 6] (fun x v wr => R2 w G a b c hd x v wr) (fun _ v _ => (3 - intOf v).toNat)
        case atStart => exact ⟨0, by omega, rfl, by first | (simp [st3]; done) | (simp [st3]; rfl), HB.out⟩
        case round =>
          clear HB p0 p1 p2 q0 q1 q2
          obtain ⟨k, hk, rfl, hx, hZ⟩ := hrel
          obtain ⟨q, hq⟩ : ∃ q, bs (hd ++ (st3 a b c k).2) = q := ⟨_, rfl⟩
          rw [hq] at hx
          subst hx
          have HQ := Box.mk hq; clear hq
          have HB := Lib.hid hZ; clear hZ
          have hlen2 := st3_len a b c k
          obtain ⟨p0, p1, p2⟩ := HB.out.A.c3
          obtain ⟨q0, q1, q2⟩ := HB.out.N.c3
          have hk4 : k = 0 ∨ k = 1 ∨ k = 2 ∨ k = 3 := by omega
          rcases hk4 with rfl | rfl | rfl | rfl
          · have HN := Box.mk (st3_0 a b c)
            generalize st3 a b c 0 = st at *
            obtain ⟨la2, lb2⟩ := st
            simp only at hlen2
            rcases seven a1 a2 with rfl | rfl | rfl | rfl | rfl | rfl | rfl
            · have z1 : ¬ 9223372036854775807 < q.size + 1 := by rw [← HQ.out, bs_size]; simp; omega
              have z2 : ¬ 9223372036854775807 < q.size + 1 + 6 := by rw [← HQ.out, bs_size]; simp; omega
              go_wp2_with fail
              go_region_held3 (fun w' => w'.cell? ⟨w.heap.size, 0, none⟩ = some (.int .i64 (-3)) ∧ w'.cell? ⟨G, 0, none⟩ = some (.string (⟨#[105, 116, 101, 109]⟩ : ByteArray)))
                (first | exact ⟨p0, q0⟩ | go_keep)
                (first | (go_at_call 20; refine (rpow3 _ _ (by decide)).mono ?_; rintro e w5 ⟨rfl, rfl⟩))
              all_goals
                go_wp2_with fail
                go_roundw
                case rel => exact ⟨1, by omega, rfl, by rw [HN.out]; exact congrArg Value.string (by show q ++ bs [47] ++ (bs [105, 116, 101, 109] ++ bs [94] ++ bs [51]) = bs (hd ++ (lb2 ++ 47 :: [105, 116, 101, 109, 94, 51])); rw [← HQ.out]; rw [bs_app, bs_app, bs_app, bs_app]; simp), HB.out.next (below_drewN _ 1)⟩
                case measure => decide
            · have z1 : ¬ 9223372036854775807 < q.size + 1 := by rw [← HQ.out, bs_size]; simp; omega
              have z2 : ¬ 9223372036854775807 < q.size + 1 + 6 := by rw [← HQ.out, bs_size]; simp; omega
              go_wp2_with fail
              go_region_held3 (fun w' => w'.cell? ⟨w.heap.size, 0, none⟩ = some (.int .i64 (-2)) ∧ w'.cell? ⟨G, 0, none⟩ = some (.string (⟨#[105, 116, 101, 109]⟩ : ByteArray)))
                (first | exact ⟨p0, q0⟩ | go_keep)
                (first | (go_at_call 20; refine (rpow2 _ _ (by decide)).mono ?_; rintro e w5 ⟨rfl, rfl⟩))
              all_goals
                go_wp2_with fail
                go_roundw
                case rel => exact ⟨1, by omega, rfl, by rw [HN.out]; exact congrArg Value.string (by show q ++ bs [47] ++ (bs [105, 116, 101, 109] ++ bs [94] ++ bs [50]) = bs (hd ++ (lb2 ++ 47 :: [105, 116, 101, 109, 94, 50])); rw [← HQ.out]; rw [bs_app, bs_app, bs_app, bs_app]; simp), HB.out.next (below_drewN _ 1)⟩
                case measure => decide
            · have z1 : ¬ 9223372036854775807 < q.size + 1 := by rw [← HQ.out, bs_size]; simp; omega
              have z2 : ¬ 9223372036854775807 < q.size + 1 + 4 := by rw [← HQ.out, bs_size]; simp; omega
              go_wp2_with fail
              go_region_held3 (fun w' => w'.cell? ⟨w.heap.size, 0, none⟩ = some (.int .i64 (-1)) ∧ w'.cell? ⟨G, 0, none⟩ = some (.string (⟨#[105, 116, 101, 109]⟩ : ByteArray)))
                (first | exact ⟨p0, q0⟩ | go_keep)
                (first | (go_at_call 20; refine (rpow1 _ _).mono ?_; rintro e w5 ⟨rfl, rfl⟩))
              all_goals
                go_wp2_with fail
                go_roundw
                case rel => exact ⟨1, by omega, rfl, by rw [HN.out]; exact congrArg Value.string (by show q ++ bs [47] ++ bs [105, 116, 101, 109] = bs (hd ++ (lb2 ++ 47 :: [105, 116, 101, 109])); rw [← HQ.out]; rw [bs_app, bs_app]; simp), HB.out.next (below_drewN _ 1)⟩
                case measure => decide
            · go_wp2_with fail
              go_roundw
              case rel => exact ⟨1, by omega, rfl, by rw [HN.out, stp_pos _ _ (by decide), HQ.out], HB.out⟩
              case measure => decide
            · go_wp2_with fail
              go_roundw
              case rel => exact ⟨1, by omega, rfl, by rw [HN.out, stp_pos _ _ (by decide), HQ.out], HB.out⟩
              case measure => decide
            · go_wp2_with fail
              go_roundw
              case rel => exact ⟨1, by omega, rfl, by rw [HN.out, stp_pos _ _ (by decide), HQ.out], HB.out⟩
              case measure => decide
            · go_wp2_with fail
              go_roundw
              case rel => exact ⟨1, by omega, rfl, by rw [HN.out, stp_pos _ _ (by decide), HQ.out], HB.out⟩
              case measure => decide
          · have HN := Box.mk (st3_1 a b c)
            generalize st3 a b c 1 = st at *
            obtain ⟨la2, lb2⟩ := st
            simp only at hlen2
            rcases seven b1 b2 with rfl | rfl | rfl | rfl | rfl | rfl | rfl
            · have z1 : ¬ 9223372036854775807 < q.size + 1 := by rw [← HQ.out, bs_size]; simp; omega
              have z2 : ¬ 9223372036854775807 < q.size + 1 + 6 := by rw [← HQ.out, bs_size]; simp; omega
              go_wp2_with fail
              go_region_held3 (fun w' => w'.cell? ⟨w.heap.size, 1, none⟩ = some (.int .i64 (-3)) ∧ w'.cell? ⟨G, 1, none⟩ = some (.string (⟨#[98, 121, 116, 101]⟩ : ByteArray)))
                (first | exact ⟨p1, q1⟩ | go_keep)
                (first | (go_at_call 20; refine (rpow3 _ _ (by decide)).mono ?_; rintro e w5 ⟨rfl, rfl⟩))
              all_goals
                go_wp2_with fail
                go_roundw
                case rel => exact ⟨2, by omega, rfl, by rw [HN.out]; exact congrArg Value.string (by show q ++ bs [47] ++ (bs [98, 121, 116, 101] ++ bs [94] ++ bs [51]) = bs (hd ++ (lb2 ++ 47 :: [98, 121, 116, 101, 94, 51])); rw [← HQ.out]; rw [bs_app, bs_app, bs_app, bs_app]; simp), HB.out.next (below_drewN _ 1)⟩
                case measure => decide
            · have z1 : ¬ 9223372036854775807 < q.size + 1 := by rw [← HQ.out, bs_size]; simp; omega
              have z2 : ¬ 9223372036854775807 < q.size + 1 + 6 := by rw [← HQ.out, bs_size]; simp; omega
              go_wp2_with fail
              go_region_held3 (fun w' => w'.cell? ⟨w.heap.size, 1, none⟩ = some (.int .i64 (-2)) ∧ w'.cell? ⟨G, 1, none⟩ = some (.string (⟨#[98, 121, 116, 101]⟩ : ByteArray)))
                (first | exact ⟨p1, q1⟩ | go_keep)
                (first | (go_at_call 20; refine (rpow2 _ _ (by decide)).mono ?_; rintro e w5 ⟨rfl, rfl⟩))
              all_goals
                go_wp2_with fail
                go_roundw
                case rel => exact ⟨2, by omega, rfl, by rw [HN.out]; exact congrArg Value.string (by show q ++ bs [47] ++ (bs [98, 121, 116, 101] ++ bs [94] ++ bs [50]) = bs (hd ++ (lb2 ++ 47 :: [98, 121, 116, 101, 94, 50])); rw [← HQ.out]; rw [bs_app, bs_app, bs_app, bs_app]; simp), HB.out.next (below_drewN _ 1)⟩
                case measure => decide
            · have z1 : ¬ 9223372036854775807 < q.size + 1 := by rw [← HQ.out, bs_size]; simp; omega
              have z2 : ¬ 9223372036854775807 < q.size + 1 + 4 := by rw [← HQ.out, bs_size]; simp; omega
              go_wp2_with fail
              go_region_held3 (fun w' => w'.cell? ⟨w.heap.size, 1, none⟩ = some (.int .i64 (-1)) ∧ w'.cell? ⟨G, 1, none⟩ = some (.string (⟨#[98, 121, 116, 101]⟩ : ByteArray)))
                (first | exact ⟨p1, q1⟩ | go_keep)
                (first | (go_at_call 20; refine (rpow1 _ _).mono ?_; rintro e w5 ⟨rfl, rfl⟩))
              all_goals
                go_wp2_with fail
                go_roundw
                case rel => exact ⟨2, by omega, rfl, by rw [HN.out]; exact congrArg Value.string (by show q ++ bs [47] ++ bs [98, 121, 116, 101] = bs (hd ++ (lb2 ++ 47 :: [98, 121, 116, 101])); rw [← HQ.out]; rw [bs_app, bs_app]; simp), HB.out.next (below_drewN _ 1)⟩
                case measure => decide
            · go_wp2_with fail
              go_roundw
              case rel => exact ⟨2, by omega, rfl, by rw [HN.out, stp_pos _ _ (by decide), HQ.out], HB.out⟩
              case measure => decide
            · go_wp2_with fail
              go_roundw
              case rel => exact ⟨2, by omega, rfl, by rw [HN.out, stp_pos _ _ (by decide), HQ.out], HB.out⟩
              case measure => decide
            · go_wp2_with fail
              go_roundw
              case rel => exact ⟨2, by omega, rfl, by rw [HN.out, stp_pos _ _ (by decide), HQ.out], HB.out⟩
              case measure => decide
            · go_wp2_with fail
              go_roundw
              case rel => exact ⟨2, by omega, rfl, by rw [HN.out, stp_pos _ _ (by decide), HQ.out], HB.out⟩
              case measure => decide
          · have HN := Box.mk (st3_2 a b c)
            generalize st3 a b c 2 = st at *
            obtain ⟨la2, lb2⟩ := st
            simp only at hlen2
            rcases seven c1 c2 with rfl | rfl | rfl | rfl | rfl | rfl | rfl
            · have z1 : ¬ 9223372036854775807 < q.size + 1 := by rw [← HQ.out, bs_size]; simp; omega
              have z2 : ¬ 9223372036854775807 < q.size + 1 + 6 := by rw [← HQ.out, bs_size]; simp; omega
              go_wp2_with fail
              go_region_held3 (fun w' => w'.cell? ⟨w.heap.size, 2, none⟩ = some (.int .i64 (-3)) ∧ w'.cell? ⟨G, 2, none⟩ = some (.string (⟨#[116, 105, 99, 107]⟩ : ByteArray)))
                (first | exact ⟨p2, q2⟩ | go_keep)
                (first | (go_at_call 20; refine (rpow3 _ _ (by decide)).mono ?_; rintro e w5 ⟨rfl, rfl⟩))
              all_goals
                go_wp2_with fail
                go_roundw
                case rel => exact ⟨3, by omega, rfl, by rw [HN.out]; exact congrArg Value.string (by show q ++ bs [47] ++ (bs [116, 105, 99, 107] ++ bs [94] ++ bs [51]) = bs (hd ++ (lb2 ++ 47 :: [116, 105, 99, 107, 94, 51])); rw [← HQ.out]; rw [bs_app, bs_app, bs_app, bs_app]; simp), HB.out.next (below_drewN _ 1)⟩
                case measure => decide
            · have z1 : ¬ 9223372036854775807 < q.size + 1 := by rw [← HQ.out, bs_size]; simp; omega
              have z2 : ¬ 9223372036854775807 < q.size + 1 + 6 := by rw [← HQ.out, bs_size]; simp; omega
              go_wp2_with fail
              go_region_held3 (fun w' => w'.cell? ⟨w.heap.size, 2, none⟩ = some (.int .i64 (-2)) ∧ w'.cell? ⟨G, 2, none⟩ = some (.string (⟨#[116, 105, 99, 107]⟩ : ByteArray)))
                (first | exact ⟨p2, q2⟩ | go_keep)
                (first | (go_at_call 20; refine (rpow2 _ _ (by decide)).mono ?_; rintro e w5 ⟨rfl, rfl⟩))
              all_goals
                go_wp2_with fail
                go_roundw
                case rel => exact ⟨3, by omega, rfl, by rw [HN.out]; exact congrArg Value.string (by show q ++ bs [47] ++ (bs [116, 105, 99, 107] ++ bs [94] ++ bs [50]) = bs (hd ++ (lb2 ++ 47 :: [116, 105, 99, 107, 94, 50])); rw [← HQ.out]; rw [bs_app, bs_app, bs_app, bs_app]; simp), HB.out.next (below_drewN _ 1)⟩
                case measure => decide
            · have z1 : ¬ 9223372036854775807 < q.size + 1 := by rw [← HQ.out, bs_size]; simp; omega
              have z2 : ¬ 9223372036854775807 < q.size + 1 + 4 := by rw [← HQ.out, bs_size]; simp; omega
              go_wp2_with fail
              go_region_held3 (fun w' => w'.cell? ⟨w.heap.size, 2, none⟩ = some (.int .i64 (-1)) ∧ w'.cell? ⟨G, 2, none⟩ = some (.string (⟨#[116, 105, 99, 107]⟩ : ByteArray)))
                (first | exact ⟨p2, q2⟩ | go_keep)
                (first | (go_at_call 20; refine (rpow1 _ _).mono ?_; rintro e w5 ⟨rfl, rfl⟩))
              all_goals
                go_wp2_with fail
                go_roundw
                case rel => exact ⟨3, by omega, rfl, by rw [HN.out]; exact congrArg Value.string (by show q ++ bs [47] ++ bs [116, 105, 99, 107] = bs (hd ++ (lb2 ++ 47 :: [116, 105, 99, 107])); rw [← HQ.out]; rw [bs_app, bs_app]; simp), HB.out.next (below_drewN _ 1)⟩
                case measure => decide
            · go_wp2_with fail
              go_roundw
              case rel => exact ⟨3, by omega, rfl, by rw [HN.out, stp_pos _ _ (by decide), HQ.out], HB.out⟩
              case measure => decide
            · go_wp2_with fail
              go_roundw
              case rel => exact ⟨3, by omega, rfl, by rw [HN.out, stp_pos _ _ (by decide), HQ.out], HB.out⟩
              case measure => decide
            · go_wp2_with fail
              go_roundw
              case rel => exact ⟨3, by omega, rfl, by rw [HN.out, stp_pos _ _ (by decide), HQ.out], HB.out⟩
              case measure => decide
            · go_wp2_with fail
              go_roundw
              case rel => exact ⟨3, by omega, rfl, by rw [HN.out, stp_pos _ _ (by decide), HQ.out], HB.out⟩
              case measure => decide
          · generalize st3 a b c 3 = st at *
            obtain ⟨la2, lb2⟩ := st
            go_wp2_with fail
            go_ret
            exact ⟨ret_str (HQ.out.symm.trans HR2.out), HB.out.below⟩
end Go.Proofs.YtpgfpcfmchmbcaaDoor
