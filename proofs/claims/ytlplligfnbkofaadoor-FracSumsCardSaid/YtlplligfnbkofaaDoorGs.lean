/- FracSums: the walk. -/
import Derived.Test.YtlplligfnbkofaaDoorGc
import Derived.Test.YtlplligfnbkofaaDoorNm2
set_option linter.unusedVariables false
set_option linter.unusedSimpArgs false
namespace Go.Proofs.YtlplligfnbkofaaDoor
open Go.RowKit FracM
set_option maxHeartbeats 4000000 in
set_option maxRecDepth 100000 in
theorem fracSums_walk (n1 d1 n2 d2 : Int) (w : World) (hl : LibW w) (l1 : -9223372036854775808 ≤ n1) (u1 : n1 ≤ 9223372036854775807) (l2 : -9223372036854775808 ≤ d1) (u2 : d1 ≤ 9223372036854775807) (l3 : -9223372036854775808 ≤ n2) (u3 : n2 ≤ 9223372036854775807) (l4 : -9223372036854775808 ≤ d2) (u4 : d2 ≤ 9223372036854775807) :
    Calls Tryd.prog 9 #[.agg #[.int .i64 n1, .int .i64 d1], .agg #[.int .i64 n2, .int .i64 d2]] w fun e w' => e = .returned (.bool true) ∧ Below w.heap.size w w' := by
  have HL := Box.mk hl; clear hl
  have F1 : Box (Fit2 n1 d1) := ⟨⟨l1, u1, l2, u2⟩⟩
  have F2 : Box (Fit2 n2 d2) := ⟨⟨l3, u3, l4, u4⟩⟩
  clear l1 u1 l2 u2 l3 u3 l4 u4
  obtain ⟨x1, y1, e1, h1⟩ : ∃ x y e, addF n1 d1 n2 d2 = (x, y, e) := ⟨_, _, _, rfl⟩
  obtain ⟨x2, y2, e2, h2⟩ : ∃ x y e, addF n1 d1 (-n2) d2 = (x, y, e) := ⟨_, _, _, rfl⟩
  have H1 := Box.mk h1; have H2 := Box.mk h2; clear h1 h2
  go_enter Tryd.func9, Tryd.ntmps9
  have HM := Lib.hid (MemF.two w n1 d1 n2 d2)
  obtain ⟨c00, c01⟩ := HM.out.at_ (g := w.heap.size) (a := n1) (b := d1) (by simp); have f0 := HM.out.fr (g := w.heap.size) (a := n1) (b := d1) (by simp)
  obtain ⟨c10, c11⟩ := HM.out.at_ (g := w.heap.size + 1) (a := n2) (b := d2) (by simp); have f1 := HM.out.fr (g := w.heap.size + 1) (a := n2) (b := d2) (by simp)
  go_wp2_with fail
  refine (add_e _ H1.out F1.out F2.out).mono ?_
  rintro e w1 ⟨rfl, hb⟩
  clear c00 c01 f0 c10 c11 f1
  have sz1 := hb.size; (try simp only [heap_size_alloc'] at sz1)
  have HM2 := Lib.hid ((HM.out.next hb).add x1 y1)
  clear hb HM
  have HM := Lib.hid HM2.out; clear HM2
  go_upto_region 2 with (fail)
  generalize hG1 : w1.heap.size = G1 at *
  generalize w1.alloc (.cells #[.int .i64 x1, .int .i64 y1] 23) = W1 at *
  clear hG1
  obtain ⟨c00, c01⟩ := HM.out.at_ (g := G1) (a := x1) (b := y1) (by simp); have f0 := HM.out.fr (g := G1) (a := x1) (b := y1) (by simp)
  obtain ⟨c10, c11⟩ := HM.out.at_ (g := w.heap.size) (a := n1) (b := d1) (by simp); have f1 := HM.out.fr (g := w.heap.size) (a := n1) (b := d1) (by simp)
  obtain ⟨c20, c21⟩ := HM.out.at_ (g := w.heap.size + 1) (a := n2) (b := d2) (by simp); have f2 := HM.out.fr (g := w.heap.size + 1) (a := n2) (b := d2) (by simp)
  go_wp2_with fail
  refine (sub_e _ H2.out F1.out F2.out).mono ?_
  rintro e w2 ⟨rfl, hb⟩
  clear c00 c01 f0 c10 c11 f1 c20 c21 f2
  have sz2 := hb.size; (try simp only [heap_size_alloc'] at sz2)
  have HM2 := Lib.hid ((HM.out.next hb).add x2 y2)
  clear hb HM
  have HM := Lib.hid HM2.out; clear HM2
  go_upto_region 3 with (fail)
  generalize hG2 : w2.heap.size = G2 at *
  generalize w2.alloc (.cells #[.int .i64 x2, .int .i64 y2] 23) = W2 at *
  clear hG2
  obtain ⟨c00, c01⟩ := HM.out.at_ (g := G2) (a := x2) (b := y2) (by simp); have f0 := HM.out.fr (g := G2) (a := x2) (b := y2) (by simp)
  obtain ⟨c10, c11⟩ := HM.out.at_ (g := G1) (a := x1) (b := y1) (by simp); have f1 := HM.out.fr (g := G1) (a := x1) (b := y1) (by simp)
  obtain ⟨c20, c21⟩ := HM.out.at_ (g := w.heap.size) (a := n1) (b := d1) (by simp); have f2 := HM.out.fr (g := w.heap.size) (a := n1) (b := d1) (by simp)
  obtain ⟨c30, c31⟩ := HM.out.at_ (g := w.heap.size + 1) (a := n2) (b := d2) (by simp); have f3 := HM.out.fr (g := w.heap.size + 1) (a := n2) (b := d2) (by simp)
  go_wp2_with fail
  refine (radd_e _ H1.out F1.out F2.out).mono ?_
  rintro e w3 ⟨rfl, hb⟩
  clear c00 c01 f0 c10 c11 f1 c20 c21 f2 c30 c31 f3
  have sz3 := hb.size; (try simp only [heap_size_alloc'] at sz3)
  have HM2 := Lib.hid ((HM.out.next hb).add x1 y1)
  clear hb HM
  have HM := Lib.hid HM2.out; clear HM2
  go_upto_region 4 with (fail)
  generalize hG3 : w3.heap.size = G3 at *
  generalize w3.alloc (.cells #[.int .i64 x1, .int .i64 y1] 23) = W3 at *
  clear hG3
  obtain ⟨c00, c01⟩ := HM.out.at_ (g := G3) (a := x1) (b := y1) (by simp); have f0 := HM.out.fr (g := G3) (a := x1) (b := y1) (by simp)
  obtain ⟨c10, c11⟩ := HM.out.at_ (g := G2) (a := x2) (b := y2) (by simp); have f1 := HM.out.fr (g := G2) (a := x2) (b := y2) (by simp)
  obtain ⟨c20, c21⟩ := HM.out.at_ (g := G1) (a := x1) (b := y1) (by simp); have f2 := HM.out.fr (g := G1) (a := x1) (b := y1) (by simp)
  obtain ⟨c30, c31⟩ := HM.out.at_ (g := w.heap.size) (a := n1) (b := d1) (by simp); have f3 := HM.out.fr (g := w.heap.size) (a := n1) (b := d1) (by simp)
  obtain ⟨c40, c41⟩ := HM.out.at_ (g := w.heap.size + 1) (a := n2) (b := d2) (by simp); have f4 := HM.out.fr (g := w.heap.size + 1) (a := n2) (b := d2) (by simp)
  go_wp2_with fail
  refine (rsub_e _ H2.out F1.out F2.out).mono ?_
  rintro e w4 ⟨rfl, hb⟩
  clear c00 c01 f0 c10 c11 f1 c20 c21 f2 c30 c31 f3 c40 c41 f4
  have sz4 := hb.size; (try simp only [heap_size_alloc'] at sz4)
  have HM2 := Lib.hid ((HM.out.next hb).add x2 y2)
  clear hb HM
  have HM := Lib.hid HM2.out; clear HM2
  go_upto_region 5 with (fail)
  generalize hG4 : w4.heap.size = G4 at *
  generalize w4.alloc (.cells #[.int .i64 x2, .int .i64 y2] 23) = W4 at *
  clear hG4
  obtain ⟨c00, c01⟩ := HM.out.at_ (g := G4) (a := x2) (b := y2) (by simp); have f0 := HM.out.fr (g := G4) (a := x2) (b := y2) (by simp)
  obtain ⟨c10, c11⟩ := HM.out.at_ (g := G3) (a := x1) (b := y1) (by simp); have f1 := HM.out.fr (g := G3) (a := x1) (b := y1) (by simp)
  obtain ⟨c20, c21⟩ := HM.out.at_ (g := G2) (a := x2) (b := y2) (by simp); have f2 := HM.out.fr (g := G2) (a := x2) (b := y2) (by simp)
  obtain ⟨c30, c31⟩ := HM.out.at_ (g := G1) (a := x1) (b := y1) (by simp); have f3 := HM.out.fr (g := G1) (a := x1) (b := y1) (by simp)
  obtain ⟨c40, c41⟩ := HM.out.at_ (g := w.heap.size) (a := n1) (b := d1) (by simp); have f4 := HM.out.fr (g := w.heap.size) (a := n1) (b := d1) (by simp)
  obtain ⟨c50, c51⟩ := HM.out.at_ (g := w.heap.size + 1) (a := n2) (b := d2) (by simp); have f5 := HM.out.fr (g := w.heap.size + 1) (a := n2) (b := d2) (by simp)
  have i1 : (e1 == e1) = true := by simp
  have i2 : (e2 == e2) = true := by simp
  go_wp2_with fail
  refine (lives_true _ (HL.out.below HM.out.below)).mono ?_
  rintro e w9 ⟨rfl, hb⟩
  replace HM := Lib.hid (HM.out.next hb); clear hb
  go_wp2_with fail
  go_ret
  exact ⟨rfl, HM.out.below⟩
end Go.Proofs.YtlplligfnbkofaaDoor
