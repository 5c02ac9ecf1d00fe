/- gcd of the reference: the walk. -/
import Derived.Test.YtlplligfnbkofaaDoorNf
import Derived.Deep.DeepCutAuto
set_option linter.unusedVariables false
set_option linter.unusedSimpArgs false
namespace Go.Proofs.YtlplligfnbkofaaDoor
open Go.RowKit DigM
theorem pow_dbl (i g : Nat) : 2 ^ (i + 1) * g = 2 ^ i * g + 2 ^ i * g := by rw [Nat.pow_succ]; grind
theorem pow_le_of {i t g X : Nat} (h : 2 ^ t * g < X) (hi : i ≤ t) : 2 ^ i * g < X := Nat.lt_of_le_of_lt (Nat.mul_le_mul_right _ (Nat.pow_le_pow_right (by omega) hi)) h

set_option maxHeartbeats 4000000 in
set_option maxRecDepth 100000 in
theorem rgcd_any (a b : Nat) (w : World) (ha : a < 4294967296 ^ 8) (hb : b < 4294967296 ^ 8) (h0 : 0 < b) : Calls Tryd.prog 74 #[nv a, nv b] w (RetN (Nat.gcd a b) w) := by
  have HA := Box.mk ha; have HB := Box.mk hb; clear ha hb
  go_enter Tryd.func74, Tryd.ntmps74
  go_wp2_with fail
  refine (from_any 0 _ (by omega)).mono ?_
  rintro e w1 ⟨rfl, hb1⟩
  have z1 := sz3 hb1
  have HM : Hid (Gm w (w1.alloc (.cells (d8 (dg 0)) 67)) w1.heap.size a b) :=
    ⟨(bthen (bel3 _ _ _ _) hb1 (Nat.le_refl _)).alloc (by omega) _, Blk.alloc (D8.below (((Blk.new _ _ _).alloc _).alloc _) hb1) _, Blk.alloc (D8.below ((Blk.newAt _ _ (by simp)).alloc _) hb1) _, Blk.alloc (D8.below (Blk.newAt _ _ (by simp)) hb1) _, Blk.new _ _ _, z1, HA.out, HB.out⟩
  clear hb1
  go_upto_region 2 with (fail)
  have HMZ : Box True := ⟨trivial⟩
  generalize w1.alloc (.cells (d8 (dg 0)) 67) = W0 at HM ⊢
  have hZ : w.heap.size + 1 + 1 < w1.heap.size := z1
  generalize w1.heap.size = Z at HM hZ ⊢
  clear z1 HMZ
  obtain ⟨a0, a1, a2, a3, a4, a5, a6, a7⟩ := HM.out.A.cells; have fa := HM.out.frA
  obtain ⟨b0, b1, b2, b3, b4, b5, b6, b7⟩ := HM.out.B.cells; have fb := HM.out.frB
  obtain ⟨z0, z1, z2, z3, z4, z5, z6, z7⟩ := HM.out.Zr.cells
  by_cases ha0 : a = 0
  · subst ha0
    have q := run_eqN_yes (a := 0)
    have HG : Box (Nat.gcd 0 b = b) := ⟨Nat.gcd_zero_left _⟩
    obtain ⟨r0, r1, r2, r3, r4, r5, r6, r7⟩ := HM.out.R.cells
    have rf := Blk.frozen HM.out.R
    go_wp2_with fail
    have HP := HM.out.R.put (dg b)
    have HL := Box.mk (put8_below HM.out.below (g := w.heap.size + 1 + 1) (by omega) (dg b))
    show bodyPost _ _ _ _ _ (put8 W0 (w.heap.size + 1 + 1) (dg b))
    generalize put8 W0 (w.heap.size + 1 + 1) (dg b) = W2 at HP HL ⊢
    obtain ⟨p0, p1, p2, p3, p4, p5, p6, p7⟩ := HP.cells
    clear r0 r1 r2 r3 r4 r5 r6 r7 rf
    refine bodyPost_ret (v := nv b) ?_ rfl ⟨by rw [HG.out], HL.out⟩
    simp [results, Tryd.results74, go_sem, p0, p1, p2, p3, p4, p5, p6, p7]
  have q := run_eqN_no HM.out.ha zero8 ha0
  have q2 := run_eqN_no HM.out.hb zero8 (show b ≠ 0 by omega)
  have HG0 : Box (Nat.gcd a b < 4294967296 ^ 8) := ⟨gcd_lt (by omega) HA.out⟩
  have ha1 : 0 < a := by omega
  go_wp2_with fail
  go_loopw [6] (fun v wr => Rel1 a b w Z v wr) (fun v _ => (256 - intOf v).toNat)
  case atStart => exact ⟨a, b, 0, rfl, HM.out, ha1, h0, by simp, by omega⟩
  case round =>
    clear HM q q2 ha0
    clear a0 a1 a2 a3 a4 a5 a6 a7 fa
    clear b0 b1 b2 b3 b4 b5 b6 b7 fb
    clear z0 z1 z2 z3 z4 z5 z6 z7
    obtain ⟨x, y, t, rfl, hM, hx, hy, hg, ht⟩ := hrel
    have HM := Lib.hid hM; have HG := Box.mk hg; clear hM hg
    obtain ⟨a0, a1, a2, a3, a4, a5, a6, a7⟩ := HM.out.A.cells; have fa := HM.out.frA
    obtain ⟨b0, b1, b2, b3, b4, b5, b6, b7⟩ := HM.out.B.cells; have fb := HM.out.frB
    by_cases ev : x % 2 = 0 ∧ y % 2 = 0
    · have e1 := even0 ev.1
      have e2 := even0 ev.2
      have HG2 : Box (Nat.gcd a b = 2 ^ (t + 1) * Nat.gcd (x / 2) (y / 2)) := ⟨by rw [HG.out, gcd_both ev.1 ev.2, Nat.pow_succ]; grind⟩
      have hx2 : 0 < x / 2 := by omega
      have hy2 : 0 < y / 2 := by omega
      have ht2 : t + 1 < 256 := two_lt (Nat.gcd_pos_of_pos_left _ hx2) (HG2.out ▸ HG0.out)
      have ht3 : (t : Int) < 256 := by omega
      clear ev HG
      go_wp2_with fail
      refine (half_b x _ HM.out.ha).mono ?_
      rintro e w5 ⟨rfl, hb5⟩
      have HM2 := Lib.hid (HM.out.next hb5); clear HM hb5 a0 a1 a2 a3 a4 a5 a6 a7 fa b0 b1 b2 b3 b4 b5 b6 b7 fb
      have HM := Lib.hid (HM2.out.setA (half_lt HM2.out.ha))
      obtain ⟨a0, a1, a2, a3, a4, a5, a6, a7⟩ := HM2.out.A.cells; have fa := HM2.out.frA
      go_upto_region 9 with (fail)
      show Code.wp _ _ _ _ (put8 w5 w.heap.size (dg (x / 2)))
      generalize put8 w5 w.heap.size (dg (x / 2)) = W5 at HM ⊢
      clear HM2 a0 a1 a2 a3 a4 a5 a6 a7 fa
      obtain ⟨b0, b1, b2, b3, b4, b5, b6, b7⟩ := HM.out.B.cells; have fb := HM.out.frB
      go_wp2_with fail
      refine (half_b y _ HM.out.hb).mono ?_
      rintro e w6 ⟨rfl, hb6⟩
      have HM2 := Lib.hid (HM.out.next hb6); clear HM hb6 b0 b1 b2 b3 b4 b5 b6 b7 fb
      have HM := Lib.hid (HM2.out.setB (half_lt HM2.out.hb))
      obtain ⟨b0, b1, b2, b3, b4, b5, b6, b7⟩ := HM2.out.B.cells; have fb := HM2.out.frB
      go_wp2_with fail
      go_roundw
      case rel => exact ⟨x / 2, y / 2, t + 1, rfl, HM.out, hx2, hy2, HG2.out, ht2⟩
      case measure => simp [intOf]; omega
    · have hp : x % 2 = 1 ∨ (x % 2 = 0 ∧ y % 2 = 1) := by omega
      have HR2 : Box (Rel2 (Nat.gcd x y) w Z wr) := ⟨⟨x, y, HM.out, hx, by omega, rfl⟩⟩
      have HGL : Box (2 ^ t * Nat.gcd x y < 4294967296 ^ 8) := ⟨HG.out ▸ HG0.out⟩
      have hg1 : 0 < Nat.gcd x y := Nat.gcd_pos_of_pos_left _ hx
      generalize Nat.gcd x y = g at HR2 HGL HG hg1
      have ht3 : (t : Int) < 256 := by omega
      clear ev
      rcases hp with hp | ⟨hp1, hp2⟩
      case' inl => have eX := odd0 hp
      case' inr => have eX := even0 hp1; have eY := odd0 hp2
      all_goals
        go_wp2_with fail
        first | simp only [eX, eY] | simp only [eX] | skip
        go_loopw [] (fun wr => Rel2 g w Z wr) (fun wr => rdN wr w.heap.size + rdN wr (w.heap.size + 1))
        case' atStart => exact HR2.out
        clear HM HR2 hx hy a0 a1 a2 a3 a4 a5 a6 a7 fa b0 b1 b2 b3 b4 b5 b6 b7 fb
        obtain ⟨x, y, hM, hx, hor, hg⟩ := hrel
        have HM := Lib.hid hM; have HG2 := Box.mk hg; clear hM hg
        obtain ⟨a0, a1, a2, a3, a4, a5, a6, a7⟩ := HM.out.A.cells; have fa := HM.out.frA
        obtain ⟨b0, b1, b2, b3, b4, b5, b6, b7⟩ := HM.out.B.cells; have fb := HM.out.frB
        obtain ⟨z0, z1, z2, z3, z4, z5, z6, z7⟩ := HM.out.Zr.cells
        by_cases hy : y = 0
        · subst hy
          have HX : Box (x = 2 ^ 0 * g) := ⟨by have := HG2.out; simp at this; simp [this]⟩
          have q := run_eqN_yes (a := 0)
          go_wp2_with fail
          go_loopw [7] (fun v wr => Rel3 g t w Z v wr) (fun v _ => (t - intOf v).toNat)
          case atStart => exact ⟨0, by omega, rfl, HX.out ▸ HM.out⟩
          case round =>
            clear HM HG2 HX q a0 a1 a2 a3 a4 a5 a6 a7 fa b0 b1 b2 b3 b4 b5 b6 b7 fb z0 z1 z2 z3 z4 z5 z6 z7
            obtain ⟨i, hi, rfl, hM⟩ := hrel
            have HM := Lib.hid hM; clear hM
            obtain ⟨a0, a1, a2, a3, a4, a5, a6, a7⟩ := HM.out.A.cells; have fa := HM.out.frA
            by_cases hit : i = t
            · subst hit

              obtain ⟨r0, r1, r2, r3, r4, r5, r6, r7⟩ := HM.out.R.cells
              have rf := Blk.frozen HM.out.R
              go_wp2_with fail
              have HP := HM.out.R.put (dg (2 ^ i * g))
              have HL := Box.mk (put8_below HM.out.below (g := w.heap.size + 1 + 1) (by omega) (dg (2 ^ i * g)))
              show bodyPost _ _ _ _ _ (put8 wr (w.heap.size + 1 + 1) (dg (2 ^ i * g)))
              generalize put8 wr (w.heap.size + 1 + 1) (dg (2 ^ i * g)) = W2 at HP HL ⊢
              obtain ⟨p0, p1, p2, p3, p4, p5, p6, p7⟩ := HP.cells
              clear r0 r1 r2 r3 r4 r5 r6 r7 rf
              refine bodyPost_ret (v := nv (2 ^ i * g)) ?_ rfl ⟨by rw [HG.out], HL.out⟩
              simp [results, Tryd.results74, go_sem, p0, p1, p2, p3, p4, p5, p6, p7]
            · have hlt : i < t := by omega
              have hlt2 : (i : Int) < t := by omega
              have HL : Box (2 ^ (i + 1) * g < 4294967296 ^ 8) := ⟨pow_le_of HGL.out hlt⟩
              go_wp2_with fail
              refine (plus_any _ _ _).mono ?_
              rintro e w6 ⟨rfl, hb6⟩
              rw [← pow_dbl]
              have HM2 := Lib.hid (HM.out.next hb6); clear HM hb6 a0 a1 a2 a3 a4 a5 a6 a7 fa
              have HM := Lib.hid (HM2.out.setA HL.out)
              obtain ⟨a0, a1, a2, a3, a4, a5, a6, a7⟩ := HM2.out.A.cells; have fa := HM2.out.frA
              go_wp2_with fail
              go_roundw
              case rel => first | exact ⟨i + 1, by omega, rfl, HM.out⟩ | ((repeat apply Exists.intro); exact ⟨⟨i + 1, by omega, rfl, HM.out⟩, by (try simp only [eX, eY]) <;> rfl⟩)
              case measure => simp [intOf]; omega
        · have q := run_eqN_no HM.out.hb zero8 hy
          have hy1 : 0 < y := by omega
          have HME : Box (rdN wr w.heap.size + rdN wr (w.heap.size + 1) = x + y) := ⟨by rw [HM.out.rdA, HM.out.rdB]⟩
          go_wp2_with fail
          go_loopw [] (fun wr' => RelA g y w Z x wr') (fun wr' => rdN wr' w.heap.size)
          case atStart => exact ⟨x, HM.out, hx, hor, HG2.out, Nat.le_refl _⟩
          case round =>
            clear HM HG2 q hor a0 a1 a2 a3 a4 a5 a6 a7 fa b0 b1 b2 b3 b4 b5 b6 b7 fb z0 z1 z2 z3 z4 z5 z6 z7
            obtain ⟨x1, hM, hx1, hor, hg, hle⟩ := hrel
            have HM := Lib.hid hM; have HG2 := Box.mk hg; clear hM hg
            obtain ⟨a0, a1, a2, a3, a4, a5, a6, a7⟩ := HM.out.A.cells; have fa := HM.out.frA
            by_cases ex : x1 % 2 = 0
            · have e1 := even0 ex
              have hyo : y % 2 = 1 := by omega
              have HR := Box.mk HM.out.rdA
              go_wp2_with fail
              refine (half_b x1 _ HM.out.ha).mono ?_
              rintro e w6 ⟨rfl, hb6⟩
              have HM2 := Lib.hid (HM.out.next hb6); clear HM hb6 a0 a1 a2 a3 a4 a5 a6 a7 fa
              have HM := Lib.hid (HM2.out.setA (half_lt HM2.out.ha))
              obtain ⟨a0, a1, a2, a3, a4, a5, a6, a7⟩ := HM2.out.A.cells; have fa := HM2.out.frA
              go_wp2_with fail
              go_roundw
              case rel => first | exact ⟨x1 / 2, HM.out, by omega, .inr hyo, by rw [gcd_left ex hyo]; exact HG2.out, by omega⟩ | ((repeat apply Exists.intro); exact ⟨⟨x1 / 2, HM.out, by omega, .inr hyo, by rw [gcd_left ex hyo]; exact HG2.out, by omega⟩, by (try simp only [eX, eY]) <;> rfl⟩)
              case measure => rw [HM.out.rdA, HR.out]; omega
            · have xo : x1 % 2 = 1 := by omega
              have e1 := odd0 xo
              go_wp2_with fail
              go_loopw [] (fun wr' => RelB g x1 w Z y wr') (fun wr' => rdN wr' (w.heap.size + 1))
              case atStart => exact ⟨y, HM.out, hy1, HG2.out, Nat.le_refl _⟩
              case round =>
                clear HM HG2 hor ex e1 a0 a1 a2 a3 a4 a5 a6 a7 fa
                obtain ⟨y1, hM, hy2, hg, hle2⟩ := hrel
                have HM := Lib.hid hM; have HG2 := Box.mk hg; clear hM hg
                obtain ⟨b0, b1, b2, b3, b4, b5, b6, b7⟩ := HM.out.B.cells; have fb := HM.out.frB
                by_cases ey : y1 % 2 = 0
                · have e1 := even0 ey
                  have HR := Box.mk HM.out.rdB
                  go_wp2_with fail
                  refine (half_b y1 _ HM.out.hb).mono ?_
                  rintro e w6 ⟨rfl, hb6⟩
                  have HM2 := Lib.hid (HM.out.next hb6); clear HM hb6 b0 b1 b2 b3 b4 b5 b6 b7 fb
                  have HM := Lib.hid (HM2.out.setB (half_lt HM2.out.hb))
                  obtain ⟨b0, b1, b2, b3, b4, b5, b6, b7⟩ := HM2.out.B.cells; have fb := HM2.out.frB
                  go_wp2_with fail
                  go_roundw
                  case rel => first | exact ⟨y1 / 2, HM.out, by omega, by rw [gcd_right xo ey]; exact HG2.out, by omega⟩ | ((repeat apply Exists.intro); exact ⟨⟨y1 / 2, HM.out, by omega, by rw [gcd_right xo ey]; exact HG2.out, by omega⟩, by (try simp only [eX, eY]) <;> rfl⟩)
                  case measure => rw [HM.out.rdB, HR.out]; omega
                · have yo : y1 % 2 = 1 := by omega
                  have e1 := odd0 yo
                  obtain ⟨a0, a1, a2, a3, a4, a5, a6, a7⟩ := HM.out.A.cells; have fa := HM.out.frA
                  go_wp2_with fail
                  refine (less_any x1 y1 _ HM.out.ha HM.out.hb).mono ?_
                  rintro e w6 ⟨rfl, hb6⟩
                  have HM2 := Lib.hid (HM.out.next hb6); clear HM hb6 e1 a0 a1 a2 a3 a4 a5 a6 a7 fa b0 b1 b2 b3 b4 b5 b6 b7 fb
                  have HM := Lib.hid HM2.out; clear HM2
                  obtain ⟨a0, a1, a2, a3, a4, a5, a6, a7⟩ := HM.out.A.cells; have fa := HM.out.frA
                  obtain ⟨b0, b1, b2, b3, b4, b5, b6, b7⟩ := HM.out.B.cells; have fb := HM.out.frB
                  by_cases hlt : y1 < x1
                  · have hl : lessN x1 y1 = 1 := by unfold lessN; rw [if_neg (by omega), if_pos hlt]
                    rw [hl]
                    go_upto_region 18 with (fail)
                    show Code.wp _ _ _ _ (put8 (put8 w6 w.heap.size (dg y1)) (w.heap.size + 1) (dg x1))
                    have HM2 := Lib.hid ((HM.out.setA HM.out.hb).setB HM.out.ha)
                    clear HM a0 a1 a2 a3 a4 a5 a6 a7 fa b0 b1 b2 b3 b4 b5 b6 b7 fb
                    generalize put8 (put8 w6 w.heap.size (dg y1)) (w.heap.size + 1) (dg x1) = W6 at HM2 ⊢
                    have HM := Lib.hid HM2.out; clear HM2
                    obtain ⟨a0, a1, a2, a3, a4, a5, a6, a7⟩ := HM.out.A.cells; have fa := HM.out.frA
                    obtain ⟨b0, b1, b2, b3, b4, b5, b6, b7⟩ := HM.out.B.cells; have fb := HM.out.frB
                    go_wp2_with fail
                    refine (minus_any x1 y1 _ (by omega)).mono ?_
                    rintro e w7 ⟨rfl, hb7⟩
                    have HM2 := Lib.hid (HM.out.next hb7); clear HM hb7 a0 a1 a2 a3 a4 a5 a6 a7 fa b0 b1 b2 b3 b4 b5 b6 b7 fb
                    have HM := Lib.hid (HM2.out.setB (c := x1 - y1) (Nat.lt_of_le_of_lt (Nat.sub_le _ _) HM2.out.hb))
                    obtain ⟨b0, b1, b2, b3, b4, b5, b6, b7⟩ := HM2.out.B.cells; have fb := HM2.out.frB
                    go_wp2_with fail
                    go_roundw
                    case rel => first | exact ⟨y1, x1 - y1, HM.out, hy2, .inl yo, by rw [gcd_less (by omega), Nat.gcd_comm]; exact HG2.out⟩ | ((repeat apply Exists.intro); exact ⟨⟨y1, x1 - y1, HM.out, hy2, .inl yo, by rw [gcd_less (by omega), Nat.gcd_comm]; exact HG2.out⟩, by (try simp only [eX, eY]) <;> rfl⟩)
                    case measure => rw [HM.out.rdA, HM.out.rdB, HME.out]; omega
                  · obtain ⟨c, hc, hc1, hc2⟩ : ∃ c, lessN x1 y1 = c ∧ c ≤ 0 ∧ -1 ≤ c := ⟨_, rfl, by unfold lessN; split <;> (try split) <;> omega, by unfold lessN; split <;> (try split) <;> omega⟩
                    rw [hc]
                    clear hc
                    have hc3 : ¬ 0 < c := by omega
                    go_wp2_with fail
                    refine (minus_any y1 x1 _ (by omega)).mono ?_
                    rintro e w7 ⟨rfl, hb7⟩
                    have HM2 := Lib.hid (HM.out.next hb7); clear HM hb7 a0 a1 a2 a3 a4 a5 a6 a7 fa b0 b1 b2 b3 b4 b5 b6 b7 fb
                    have HM := Lib.hid (HM2.out.setB (c := y1 - x1) (Nat.lt_of_le_of_lt (Nat.sub_le _ _) HM2.out.hb))
                    obtain ⟨b0, b1, b2, b3, b4, b5, b6, b7⟩ := HM2.out.B.cells; have fb := HM2.out.frB
                    go_wp2_with fail
                    go_roundw
                    case rel => first | exact ⟨x1, y1 - x1, HM.out, hx1, .inl xo, by rw [gcd_less (by omega)]; exact HG2.out⟩ | ((repeat apply Exists.intro); exact ⟨⟨x1, y1 - x1, HM.out, hx1, .inl xo, by rw [gcd_less (by omega)]; exact HG2.out⟩, by (try simp only [eX, eY]) <;> rfl⟩)
                    case measure => rw [HM.out.rdA, HM.out.rdB, HME.out]; omega
end Go.Proofs.YtlplligfnbkofaaDoor
