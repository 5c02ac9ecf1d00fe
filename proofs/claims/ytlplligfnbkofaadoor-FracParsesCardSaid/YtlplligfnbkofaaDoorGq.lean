/- FracParses: the walk. -/
import Derived.Test.YtlplligfnbkofaaDoorPe
set_option linter.unusedVariables false
set_option linter.unusedSimpArgs false
namespace Go.Proofs.YtlplligfnbkofaaDoor
open Go.RowKit FracM

/-- 'Short': the first bytes of a string. -/
def shortS (s : ByteArray) (most : Nat) : ByteArray := if most < s.size then s.extract 0 most else s
theorem shortS_any (s : ByteArray) (w : World) :
    Calls Tryd.prog 25 #[.string s, .int .i64 45] w fun e w' => e = .returned (.string (shortS s 45)) ∧ w' = w := by
  by_cases h : 45 < s.size
  · have E : Box (shortS s 45 = s.extract 0 45) := ⟨if_pos h⟩
    have h2 : (45 : Int) < s.size := by omega
    go_enter Tryd.func25, Tryd.ntmps25
    go_wp2
    go_ret
    exact ⟨ret_str (by rw [E.out]), rfl⟩
  · have E : Box (shortS s 45 = s) := ⟨if_neg h⟩
    have h2 : ¬ (45 : Int) < s.size := by omega
    go_enter Tryd.func25, Tryd.ntmps25
    go_wp2
    go_ret
    exact ⟨ret_str (by rw [E.out]), rfl⟩
theorem shortS_size (s : ByteArray) : (shortS s 45).size ≤ 999 := by
  unfold shortS; split
  · simp [ByteArray.size_extract]; omega
  · omega
theorem rparse_e {s : ByteArray} {a b c : Int} (w : World) (h : parseF s = (a, b, c)) (hs : s.size ≤ 999) : Calls Tryd.prog 26 #[.string s] w (RetE a b c w) := by
  have := rparse_any s w hs
  rw [rparse_eq] at this
  unfold RetF at this; rw [h] at this; exact this
set_option maxHeartbeats 4000000 in
set_option maxRecDepth 100000 in
theorem fracParses_walk (s : ByteArray) (w : World) (hl : LibW w) :
    Calls Tryd.prog 6 #[.string s] w fun e w' => e = .returned (.bool true) ∧ Below w.heap.size w w' := by
  have HL := Box.mk hl; clear hl
  have HZ := Box.mk (shortS_size s)
  go_enter Tryd.func6, Tryd.ntmps6
  have HM : Hid (MemF w w []) := ⟨Below.refl _ _, fun x hx => by cases hx⟩
  go_wp2_with fail
  refine (shortS_any s _).mono ?_
  rintro e w1 ⟨rfl, rfl⟩
  generalize shortS s 45 = t at *
  obtain ⟨x, y, c, hp⟩ : ∃ x y c, parseF t = (x, y, c) := ⟨_, _, _, rfl⟩
  have HP := Box.mk hp; clear hp
  go_wp2_with fail
  refine (parse_e _ HP.out HZ.out HL.out).mono ?_
  rintro e w2 ⟨rfl, hb⟩
  have HM2 := Lib.hid ((HM.out.next hb).add x y); clear HM hb
  have HM := Lib.hid HM2.out; clear HM2
  go_upto_region 3 with (fail)
  generalize w2.heap.size = G2 at *
  generalize w2.alloc (.cells #[.int .i64 x, .int .i64 y] 23) = W2 at *
  go_wp2_with fail
  refine (rparse_e _ HP.out HZ.out).mono ?_
  rintro e w3 ⟨rfl, hb⟩
  have HM2 := Lib.hid ((HM.out.next hb).add x y); clear HM hb
  have HM := Lib.hid HM2.out; clear HM2
  go_upto_region 4 with (fail)
  generalize w3.heap.size = G3 at *
  generalize w3.alloc (.cells #[.int .i64 x, .int .i64 y] 23) = W3 at *
  obtain ⟨c00, c01⟩ := HM.out.at_ (g := G3) (a := x) (b := y) (by simp)
  obtain ⟨c10, c11⟩ := HM.out.at_ (g := G2) (a := x) (b := y) (by simp)
  go_wp2_with fail
  refine (lives_true _ (HL.out.below HM.out.below)).mono ?_
  rintro e w9 ⟨rfl, hb⟩
  replace HM := Lib.hid (HM.out.next hb); clear hb
  go_wp2_with fail
  go_ret
  exact ⟨rfl, HM.out.below⟩
end Go.Proofs.YtlplligfnbkofaaDoor
