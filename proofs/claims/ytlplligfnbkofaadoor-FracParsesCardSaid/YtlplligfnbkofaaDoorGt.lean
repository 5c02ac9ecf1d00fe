/- FracTexts: the walk. -/
import Derived.Test.YtlplligfnbkofaaDoorTc
import Derived.Test.YtlplligfnbkofaaDoorGf
import Derived.Test.YtlplligfnbkofaaDoorGo
set_option linter.unusedVariables false
set_option linter.unusedSimpArgs false
namespace Go.Proofs.YtlplligfnbkofaaDoor
open Go.RowKit FracM

theorem text_s {n d : Int} {s : ByteArray} (w : World) (hs : textF n d = s) (f : Fit2 n d) (hl : LibW w) : Calls Tryd.prog 22 #[.agg #[.int .i64 n, .int .i64 d]] w (RetS s w) := by
  subst hs; exact text_any n d w f.1 f.2.1 f.2.2.1 f.2.2.2 hl
theorem rtext_s {n d : Int} {s : ByteArray} (w : World) (hs : textF n d = s) (f : Fit2 n d) : Calls Tryd.prog 24 #[.agg #[.int .i64 n, .int .i64 d]] w (RetS s w) := by
  subst hs; exact rtext_any n d w f.1 f.2.1 f.2.2.1 f.2.2.2
theorem parse_e {s : ByteArray} {a b c : Int} (w : World) (h : parseF s = (a, b, c)) (hs : s.size ≤ 999) (hl : LibW w) : Calls Tryd.prog 23 #[.string s] w (RetE a b c w) := by
  have := parse_any s w hs hl
  unfold RetF at this; rw [h] at this; exact this
theorem MemF.c6 {w W : World} {g1 g2 g3 : Nat} {a1 b1 a2 b2 a3 b3 : Int} (h : MemF w W [(g3, a3, b3), (g2, a2, b2), (g1, a1, b1)]) : W.cell? ⟨g1, 0, none⟩ = some (.int .i64 a1) ∧ W.cell? ⟨g1, 1, none⟩ = some (.int .i64 b1) ∧ W.cell? ⟨g2, 0, none⟩ = some (.int .i64 a2) ∧ W.cell? ⟨g2, 1, none⟩ = some (.int .i64 b2) ∧ W.cell? ⟨g3, 0, none⟩ = some (.int .i64 a3) ∧ W.cell? ⟨g3, 1, none⟩ = some (.int .i64 b3) := by
  have x1 := h.at_ (g := g1) (a := a1) (b := b1) (by simp)
  have x2 := h.at_ (g := g2) (a := a2) (b := b2) (by simp)
  have x3 := h.at_ (g := g3) (a := a3) (b := b3) (by simp)
  exact ⟨x1.1, x1.2, x2.1, x2.2, x3.1, x3.2⟩
set_option maxHeartbeats 4000000 in
set_option maxRecDepth 100000 in
theorem fracTexts_walk (p q : Int) (w : World) (hl : LibW w) (l1 : -9223372036854775808 ≤ p) (u1 : p ≤ 9223372036854775807) (l2 : -9223372036854775808 ≤ q) (u2 : q ≤ 9223372036854775807) :
    Calls Tryd.prog 5 #[.int .i64 p, .int .i64 q] w fun e w' => e = .returned (.bool true) ∧ Below w.heap.size w w' := by
  have HL := Box.mk hl; clear hl
  have FR : Box (Fit2 p q) := ⟨⟨l1, u1, l2, u2⟩⟩
  go_enter Tryd.func5, Tryd.ntmps5
  have HM : Hid (MemF w w []) := ⟨Below.refl _ _, fun x hx => by cases hx⟩
  go_wp2_with fail
  refine (of_any p q _ l1 u1 l2 u2).mono ?_
  rintro e w1 ⟨a, b, rfl, v, hb⟩
  clear l1 u1 l2 u2
  have F1 := Box.mk (fit_v v)
  have HP := Box.mk (parse_text v)
  have HZ := Box.mk (text_size v)
  obtain ⟨s, hs⟩ : ∃ s, textF a b = s := ⟨_, rfl⟩
  obtain ⟨t, ht⟩ : ∃ t, textF p q = t := ⟨_, rfl⟩
  rw [hs] at HP HZ
  have HS := Box.mk hs; have HT := Box.mk ht; clear hs ht v
  have sz1 := hb.size
  have HM2 := Lib.hid ((HM.out.next hb).add a b)
  clear HM hb
  have HM := Lib.hid HM2.out; clear HM2
  go_upto_region 2 with (fail)
  generalize w1.heap.size = G1 at *
  generalize w1.alloc (.cells #[.int .i64 a, .int .i64 b] 23) = W1 at *
  obtain ⟨c00, c01⟩ := HM.out.at_ (g := G1) (a := a) (b := b) (by simp)
  go_wp2_with fail
  refine (text_s _ HS.out F1.out (HL.out.below HM.out.below)).mono ?_
  rintro e w2 ⟨rfl, hb⟩
  clear c00 c01
  have HM2 := Lib.hid (HM.out.next hb); clear HM hb
  have HM := Lib.hid HM2.out; clear HM2
  go_wp2_with fail
  refine (parse_e _ HP.out HZ.out (HL.out.below HM.out.below)).mono ?_
  rintro e w3 ⟨rfl, hb⟩
  have HM2 := Lib.hid ((HM.out.next hb).add a b); clear HM hb
  have HM := Lib.hid HM2.out; clear HM2
  go_upto_region 4 with (fail)
  generalize w3.heap.size = G3 at *
  generalize w3.alloc (.cells #[.int .i64 a, .int .i64 b] 23) = W3 at *
  have HM2 := Lib.hid (HM.out.add p q); clear HM
  have HM := Lib.hid HM2.out; clear HM2
  go_upto_region 5 with (fail)
  generalize W3.heap.size = G4 at *
  generalize W3.alloc (.cells #[.int .i64 p, .int .i64 q] 23) = W4 at *
  obtain ⟨c10, c11, c20, c21, c30, c31⟩ := HM.out.c6
  go_region_held3 (fun w' => w'.cell? ⟨G1, 0, none⟩ = some (.int .i64 a) ∧ w'.cell? ⟨G1, 1, none⟩ = some (.int .i64 b) ∧ w'.cell? ⟨G3, 0, none⟩ = some (.int .i64 a) ∧ w'.cell? ⟨G3, 1, none⟩ = some (.int .i64 b) ∧ w'.cell? ⟨G4, 0, none⟩ = some (.int .i64 p) ∧ w'.cell? ⟨G4, 1, none⟩ = some (.int .i64 q))
    (first | exact HM.out.c6 | exact (HM.out.next (below_drewN _ _)).c6 | go_keep)
    (first
      | (go_at_call 24; (with_reducible refine (rtext_s _ HS.out F1.out).mono ?_); rintro e w5 ⟨rfl, hb5⟩; have HM2 : Hid (MemF w w5 [(G4, p, q), (G3, a, b), (G1, a, b)]) := (by first | exact HM.out.next hb5 | exact (HM.out.next (below_drewN _ _)).next hb5); clear HM; have HM := Lib.hid HM2.out; clear HM2; clear hb5)
      | (go_at_call 24; (with_reducible refine (rtext_s _ HT.out FR.out).mono ?_); rintro e w5 ⟨rfl, hb5⟩; have HM2 : Hid (MemF w w5 [(G4, p, q), (G3, a, b), (G1, a, b)]) := (by first | exact HM.out.next hb5 | exact (HM.out.next (below_drewN _ _)).next hb5); clear HM; have HM := Lib.hid HM2.out; clear HM2; clear hb5)
      | (go_at_call 22; (refine (text_s _ HT.out FR.out (by first | exact HL.out.below HM.out.below | exact HL.out.below (HM.out.next (below_drewN _ _)).below)).mono ?_); rintro e w5 ⟨rfl, hb5⟩; have HM2 : Hid (MemF w w5 [(G4, p, q), (G3, a, b), (G1, a, b)]) := (by first | exact HM.out.next hb5 | exact (HM.out.next (below_drewN _ _)).next hb5); clear HM; have HM := Lib.hid HM2.out; clear HM2; clear hb5)
      | (go_at_call 16; (refine (lives_true _ (by first | exact HL.out.below HM.out.below | exact HL.out.below (HM.out.next (below_drewN _ _)).below)).mono ?_); rintro e w5 ⟨rfl, hb5⟩; have HM2 : Hid (MemF w w5 [(G4, p, q), (G3, a, b), (G1, a, b)]) := (by first | exact HM.out.next hb5 | exact (HM.out.next (below_drewN _ _)).next hb5); clear HM; have HM := Lib.hid HM2.out; clear HM2; clear hb5))
  all_goals
    go_wp2_with fail
    go_ret
    exact ⟨rfl, HM.out.below⟩
end Go.Proofs.YtlplligfnbkofaaDoor
