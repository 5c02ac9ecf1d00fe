/- SilenceCopy: the walk. -/
import Derived.Test.YtoafpajibeejlaaCpr
import Derived.Test.YtoafpajibeejlaaGen5
import Derived.Deep.DeepCutAuto
set_option linter.unusedVariables false
set_option linter.unusedSimpArgs false
namespace Go.Proofs.Ytoafpajibeejlaa
open Go.RowKit

set_option maxRecDepth 100000 in
set_option maxHeartbeats 4000000 in
theorem copy_walk (A : Option Addr) (n c : Nat) (l : List Int) (cutv : Int) (w : World) (h : Ints w w.heap.size (.slice A n c) l) (hc1 : -9223372036854775808 ≤ cutv) (hc2 : cutv ≤ 9223372036854775807) :
    Calls Try.prog 10 #[.slice A n c, .int .i64 cutv] w fun e w' => e = .returned (.bool true) ∧ Below w.heap.size w w' := by
  have HI := Lib.hid h
  clear h
  go_enter Try.func10, Try.ntmps10
  go_upto_region 5 with (first
    | (go_at_call 16
       refine (ops_any _ _ _ w.heap.size l _ (by exact HI.out) (Nat.le_refl _)).mono ?_
       rintro e w1 ⟨lo, A1, c1, rfl, ho1, hlo, hb1⟩
       have hwB : w.heap.size ≤ w1.heap.size := hb1.size
       have HO1 := Lib.hid (And.intro ho1 hb1)
       clear ho1 hb1)
    | (go_at_call 12; refine (around_any _ _ _ (by omega) (by omega) (by omega) (by omega)).mono ?_; rintro e w' ⟨rfl, rfl⟩)
    | (go_at_call 19; refine (new_any _).mono ?_; rintro e w' ⟨rfl, rfl⟩))
  obtain ⟨k, hkn, hke⟩ : ∃ k : Nat, k ≤ lo.length ∧ around cutv ((lo.length : Int) + 1) = (k : Int) := ⟨(around cutv ((lo.length : Int) + 1)).toNat, by have := around_bd cutv ((lo.length : Int) + 1) (by omega); omega, by have := around_bd cutv ((lo.length : Int) + 1) (by omega); omega⟩
  rw [hke]
  clear hke
  have HW0 : Hid (Two ((w1.alloc (.cells #[.slice none 0 0] 77)).alloc (.cells #[.slice none 0 0] 60)) w1.heap.size w1.heap.size (w1.heap.size + 1) [] ∧ OpsAt ((w1.alloc (.cells #[.slice none 0 0] 77)).alloc (.cells #[.slice none 0 0] 60)) w.heap.size (.slice A1 lo.length c1) lo ∧ Below w1.heap.size w1 ((w1.alloc (.cells #[.slice none 0 0] 77)).alloc (.cells #[.slice none 0 0] 60))) := ⟨new_two w1, HO1.out.1.below (bel2 _ _ _), bel2 _ _ _⟩
  generalize ((w1.alloc (.cells #[.slice none 0 0] 77)).alloc (.cells #[.slice none 0 0] 60)) = W0 at HW0 ⊢
  go_wp2
  go_loopw [9] (fun iv wr => CyRel1 w w1 k (.slice A1 lo.length c1) lo iv wr) (fun iv _ => k - (intOf iv).toNat)
  case atStart => exact ⟨0, by omega, rfl, by simp [runM], fun x hx => by simp [runM] at hx, by simpa [runM] using HW0.out.1, HW0.out.2.1, Fr.of_below HW0.out.2.2⟩
  case round =>
    obtain ⟨i, hik, rfl, hlen, hfit, htwo, hops, hrest⟩ := hrel
    have hBz : w1.heap.size ≤ wr.heap.size := hrest.size
    by_cases hik2 : i < k
    · have hlt : i < lo.length := by omega
      obtain ⟨kind, s, A2, n2, c2, oid, ow, tick, til, cls, A3, n3, c3, ls, b, off, hx, hAe, hb, hat, hmx, hlx, hgf, ⟨k0, k3⟩, ⟨o1, o5⟩, ⟨t0, t1⟩, ⟨u0, u1⟩, ⟨cl0, cl1⟩, hl6, hgl⟩ := hops.open_ i hlt
      subst hAe
      have hstep := runM_next hx
      simp only at hstep
      have hfit2 := opM_fit (sl := runM [] (lo.take i)) (kind := kind) (s := s) (oid := oid) (tick := tick) (til := til) (cls := cls) (ow := ow) (ls := ls) hfit (by unfold GFit at hgf; omega)
      rw [← hstep] at hfit2
      have hln2 : (runM [] (lo.take (i + 1))).length ≤ i + 1 := by have := hfit2.2; omega
      obtain ⟨dd, hdu, hdr⟩ := opUnder
      have HD := Lib.hid (And.intro hdu hdr)
      have HAT := Lib.hid hat
      have HG := Lib.hid (And.intro hmx (And.intro hlx (And.intro hgf (And.intro hfit2.1 hstep))))
      have HH := Lib.hid (And.intro hfit (And.intro htwo (And.intro hops hrest)))
      have hlsl : (runM [] (lo.take i)).length ≤ 10000 := by omega
      clear hfit htwo hops hrest hmx hlx hgf hfit2 hstep hat hgl hdu hdr hx
      go_wp2_with (first
        | (refine wpList_load_mid rfl 42 (.tmp 33) rfl b (off + i * 22) rfl _ _ HAT.out HD.out.1 HD.out.2 opSize ?_)
        | (go_at_call 26
           refine (does_any kind w1.heap.size (w1.heap.size + 1) w1.heap.size (runM [] (lo.take i)) s _ _ _ _ _ _ _ _ _ _ _ _ _ _ _ _ _ ls _ (by exact HH.out.2.1) (by exact hBz) hlsl (by exact Seq.raise' HG.out.1 hwB) (by exact Seq.raise' HG.out.2.1 hwB) HG.out.2.2.1.1 HH.out.1 (by omega) (by omega) (by omega) (by omega) (by omega)).mono ?_
           rintro e w5 ⟨rfl, ht5, hf5⟩
           rw [← HG.out.2.2.2.2] at ht5
           have HZ := Lib.hid (And.intro ht5 hf5)
           clear ht5 hf5))
      go_wp2
      go_roundw
      case rel => exact ⟨i + 1, by omega, by go_num, hln2, HG.out.2.2.2.1, HZ.out.1, HH.out.2.2.1.kfr HZ.out.2 hwB, HH.out.2.2.2.trans HZ.out.2⟩
      case measure => simp [intOf]; omega
    · obtain rfl : i = k := by omega
      obtain ⟨W1, hW1⟩ : ∃ W1 : World, W1 = wr := ⟨_, rfl⟩
      subst hW1
      obtain ⟨lb, lr, hbb, hrb, mb, mr⟩ := htwo
      obtain ⟨Ar, cr, hblkr, _, _⟩ := hrb.form
      have hlb : lb.length ≤ 10000 := by rw [mapLen mb]; omega
      have hqz : w1.heap.size + 1 < W1.heap.size := hblkr.ty.lt
      have HB1 := Lib.hid (And.intro hbb (And.intro mb hblkr))
      have HR1 := Lib.hid (And.intro hlen (And.intro hfit (And.intro hops hrest)))
      clear hbb hrb mb mr hblkr hlen hfit hops hrest
      go_upto_region 14 with (first
        | (go_at_call 30
           refine (copy_any w1.heap.size w1.heap.size lb _ HB1.out.1 hBz hlb).mono ?_
           rintro e W2 ⟨rfl, ⟨lc, hbc, hkc, hmc⟩, hb2⟩
           have hz2 : W1.heap.size < W2.heap.size := hbc.ty.lt
           have hlc : lc.length ≤ 10000 := by rw [mapLen hmc, List.length_map]; exact hlb
           have HC2 : Hid (BookAt W2 w1.heap.size W1.heap.size lc ∧ lc.map Prod.fst = runM [] (lo.take i) ∧ Below W1.heap.size W1 W2 ∧ ∀ g, F.rowOf W2 W1.heap.size = some g → W1.heap.size ≤ g ∧ g < W2.heap.size) := by
             refine ⟨?_, by rw [hmc]; exact HB1.out.2.1, hb2, fun g hg => ⟨(hbc.row_lt hg).1, (hbc.row_lt hg).2.lt⟩⟩
             obtain ⟨h1, sv, hh, hown, _⟩ := hbc
             exact ⟨hBz, sv, hh, own_base hown hBz, hkc⟩
           clear hbc hkc hmc hb2)
        | (go_at_call 21
           (with_reducible refine (all_any w1.heap.size w1.heap.size lb _ (HB1.out.1.below HC2.out.2.2.1) (by omega) (by omega)).mono ?_)
           rintro e W3 ⟨A3, n3, c3, l3, rfl, hm3, ho3, hk3, hb3⟩
           obtain ⟨A3', c3', hv3⟩ := own_form ho3
           have hn3 : n3 = l3.length := by injection hv3
           subst hn3
           have hz3' : W2.heap.size ≤ W3.heap.size := hb3.size
           have HA3 := Lib.hid (And.intro (hm3.trans HB1.out.2.1) (And.intro ho3 (And.intro hk3 hb3)))
           clear hm3 ho3 hk3 hb3 hv3)
        | (go_at_call 21
           (with_reducible refine (all_any W1.heap.size w1.heap.size lc _ (HC2.out.1.below HA3.out.2.2.2) (by omega) (by omega)).mono ?_)
           rintro e W4 ⟨A4, n4, c4, l4, rfl, hm4, ho4, hk4, hb4⟩
           obtain ⟨A4', c4', hv4⟩ := own_form ho4
           have hn4 : n4 = l4.length := by injection hv4
           subst hn4
           have hz4' : W3.heap.size ≤ W4.heap.size := hb4.size
           have hb14 : Below W1.heap.size W1 W4 := (HC2.out.2.2.1.trans (HA3.out.2.2.2.mono (by omega))).trans (hb4.mono (by omega))
           have HQ4 := Lib.hid (HB1.out.2.2.below hb14)
           have HA4 := Lib.hid (And.intro (hm4.trans HC2.out.2.1) (And.intro ho4 (And.intro hk4 (And.intro hb4 hb14))))
           have g4 := HQ4.out.one
           have f4 := HQ4.out.frozen
           have hput := rbook_put (base := w1.heap.size) (by omega) HQ4.out (own_base ho4 (by omega)) hk4
           have HP5 : Hid (Sils (W4.setCell ⟨w1.heap.size + 1, 0, none⟩ (.slice A4 l4.length c4)) w1.heap.size 24 (.slice A3 l3.length c3) l3 ∧ Sils (W4.setCell ⟨w1.heap.size + 1, 0, none⟩ (.slice A4 l4.length c4)) w1.heap.size 24 (.slice A4 l4.length c4) l4 ∧ BookAt (W4.setCell ⟨w1.heap.size + 1, 0, none⟩ (.slice A4 l4.length c4)) w1.heap.size W1.heap.size lc ∧ RBookAt (W4.setCell ⟨w1.heap.size + 1, 0, none⟩ (.slice A4 l4.length c4)) w1.heap.size (w1.heap.size + 1) l4 ∧ Fr w1.heap.size TT W1 (W4.setCell ⟨w1.heap.size + 1, 0, none⟩ (.slice A4 l4.length c4)) ∧ (∀ k, k < W1.heap.size → k ≠ w1.heap.size + 1 → (W4.setCell ⟨w1.heap.size + 1, 0, none⟩ (.slice A4 l4.length c4)).heap[k]? = W1.heap[k]?) ∧ (∀ g, F.rowOf (W4.setCell ⟨w1.heap.size + 1, 0, none⟩ (.slice A4 l4.length c4)) W1.heap.size = some g → W1.heap.size ≤ g ∧ g < W2.heap.size) ∧ (∀ g, F.rowOf (W4.setCell ⟨w1.heap.size + 1, 0, none⟩ (.slice A4 l4.length c4)) (w1.heap.size + 1) = some g → W3.heap.size ≤ g) ∧ (W4.setCell ⟨w1.heap.size + 1, 0, none⟩ (.slice A4 l4.length c4)).ownsRow W2.heap.size 24 9 (.slice A3 l3.length c3) l3.length (rowCells l3) ∧ W4.heap.size ≤ (W4.setCell ⟨w1.heap.size + 1, 0, none⟩ (.slice A4 l4.length c4)).heap.size) := by
             obtain ⟨p1, p2, p3, p4⟩ := hput
             have o3 := own_kept (own_below HA3.out.2.1 hb4) (fun g hg => p4 g (by have := (own_ty HA3.out.2.1 g hg).1; omega))
             have o4 := own_kept ho4 (fun g hg => p4 g (by have := (own_ty ho4 g hg).1; omega))
             have bc4 := (HC2.out.1.below HA3.out.2.2.2).below hb4
             have er : F.rowOf W4 W1.heap.size = F.rowOf W2 W1.heap.size := F.rowOf_same ((hb4.block _ (by omega)).trans (HA3.out.2.2.2.block _ (by omega)))
             refine ⟨⟨Seq.of_own o3, ((HA3.out.2.2.1.below hb4).keep p2 (by decide))⟩, ⟨Seq.of_own o4, hk4.keep p2 (by decide)⟩, bc4.kept (fun kk hf => p4 kk ?_) p2 (by decide), p1, (Fr.of_below hb14).trans p2, fun kk hk hne => (p4 kk hne).trans (hb14.block kk hk), fun g hg => ?_, fun g hg => ?_, o3, p2.size⟩
             · rcases hf with e | e
               · omega
               · rw [er] at e; have := HC2.out.2.2.2 kk e; omega
             · rw [F.rowOf_same (p4 _ (by omega)), er] at hg; exact HC2.out.2.2.2 g hg
             · rw [p3] at hg; exact (own_ty ho4 g hg).1
           clear hm4 ho4 hk4 hb4 hv4 hb14 hput)
        | (go_at_call 27
           refine (same_any _ _ _ _ _ _ w1.heap.size l3 l4 _ (by exact HP5.out.1) (by exact HP5.out.2.1) (by rw [HA3.out.1, HA4.out.1])).mono ?_
           rintro e W6 ⟨rfl, hb6⟩
           have hz6 : W3.heap.size ≤ W6.heap.size := Nat.le_trans hz4' (Nat.le_trans HP5.out.2.2.2.2.2.2.2.2.2 hb6.size)
           have HS6 : Hid (Two W6 w1.heap.size W1.heap.size (w1.heap.size + 1) (runM [] (lo.take i)) ∧ OpsAt W6 w.heap.size (.slice A1 lo.length c1) lo ∧ ((∀ g, F.rowOf W6 W1.heap.size = some g → (W1.heap.size ≤ g ∧ g < W2.heap.size) ∨ W3.heap.size ≤ g) ∧ (∀ g, F.rowOf W6 (w1.heap.size + 1) = some g → W3.heap.size ≤ g)) ∧ (∀ k, k < W1.heap.size → k ≠ w1.heap.size + 1 → W6.heap[k]? = W1.heap[k]?) ∧ Fr w1.heap.size TT W1 W6 ∧ W6.ownsRow W2.heap.size 24 9 (.slice A3 l3.length c3) l3.length (rowCells l3) ∧ SilsOk W6 w1.heap.size l3) := by
             obtain ⟨q1, q2, q3, q4, q5, q6, q7, q8, q9, q10⟩ := HP5.out
             refine ⟨⟨lc, l4, q3.below hb6, q4.below hb6, HC2.out.2.1, HA4.out.1⟩, (HR1.out.2.2.1.kfr q5 hwB).below hb6, ⟨fun g hg => .inl (q7 g (by rwa [F.rowOf_same (hb6.block _ q3.ty.lt)] at hg)), fun g hg => q8 g (by rwa [F.rowOf_same (hb6.block _ (F.rlt q4))] at hg)⟩, fun kk hk hne => (hb6.block kk (by have := q5.size; omega)).trans (q6 kk hk hne), q5.then_ hb6, own_below q9 hb6, q1.2.below hb6⟩
           clear hb6))
      go_wp2
      obtain ⟨wo, rfl⟩ : ∃ wo : World, wo = W6 := ⟨_, rfl⟩
      have hN1 : w1.heap.size + 1 < W1.heap.size := hqz
      have hN2 : W1.heap.size < W2.heap.size := hz2
      have hN3 : W2.heap.size ≤ W3.heap.size := hz3'
      go_loopw [12] (fun iv wr => CyRel2 w w1 wo W1.heap.size W2.heap.size W3.heap.size i (.slice A1 lo.length c1) lo iv wr) (fun iv _ => lo.length - (intOf iv).toNat)
      case atStart => exact ⟨i, Nat.le_refl _, hkn, rfl, HR1.out.1, HR1.out.2.1, HS6.out.1, HS6.out.2.1, HS6.out.2.2.1.1, HS6.out.2.2.1.2, fun _ _ => rfl, Fr.refl _ _ _⟩
      case round =>
        obtain ⟨k, hik⟩ : ∃ k : Nat, k = i := ⟨_, rfl⟩
        subst hik
        obtain ⟨i, hki, hin, rfl, hlen, hfit, htwo, hops, hrest⟩ := hrel
        have hBz : w1.heap.size ≤ wr.heap.size := by have := hrest.2.2.2.size; omega
        have hz3 : W3.heap.size ≤ wr.heap.size := by have := hrest.2.2.2.size; omega
        by_cases hlt : i < lo.length
        · skip
          obtain ⟨kind, s, A2, n2, c2, oid, ow, tick, til, cls, A3, n3, c3, ls, b, off, hx, hAe, hb, hat, hmx, hlx, hgf, ⟨k0, k3⟩, ⟨o1, o5⟩, ⟨t0, t1⟩, ⟨u0, u1⟩, ⟨cl0, cl1⟩, hl6, hgl⟩ := hops.open_ i hlt
          subst hAe
          have hstep := runM_next hx
          simp only at hstep
          have hfit2 := opM_fit (sl := runM [] (lo.take i)) (kind := kind) (s := s) (oid := oid) (tick := tick) (til := til) (cls := cls) (ow := ow) (ls := ls) hfit (by unfold GFit at hgf; omega)
          rw [← hstep] at hfit2
          have hln2 : (runM [] (lo.take (i + 1))).length ≤ i + 1 := by have := hfit2.2; omega
          obtain ⟨dd, hdu, hdr⟩ := opUnder
          have HD := Lib.hid (And.intro hdu hdr)
          have HAT := Lib.hid hat
          have HG := Lib.hid (And.intro hmx (And.intro hlx (And.intro hgf (And.intro hfit2.1 hstep))))
          have HH := Lib.hid (And.intro hfit (And.intro htwo (And.intro hops hrest)))
          have hlsl : (runM [] (lo.take i)).length ≤ 10000 := by omega
          clear hfit htwo hops hrest hmx hlx hgf hfit2 hstep hat hgl hdu hdr hx
          go_wp2_with (first
            | (refine wpList_load_mid rfl 42 (.tmp 63) rfl b (off + i * 22) rfl _ _ HAT.out HD.out.1 HD.out.2 opSize ?_)
            | (go_at_call 26
               refine (F.does_any kind W1.heap.size (w1.heap.size + 1) w1.heap.size (runM [] (lo.take i)) s _ _ _ _ _ _ _ _ _ _ _ _ _ _ _ _ _ ls _ (by exact HH.out.2.1) (by exact hBz) hlsl (by exact Seq.raise' HG.out.1 hwB) (by exact Seq.raise' HG.out.2.1 hwB) HG.out.2.2.1.1 HH.out.1 (by omega) (by omega) (by omega) (by omega) (by omega)).mono ?_
               rintro e w5 ⟨rfl, ht5, hf5⟩
               rw [← HG.out.2.2.2.2] at ht5
               have HZ := Lib.hid (And.intro ht5 hf5)
               clear ht5 hf5))
          go_wp2
          go_roundw
          case rel => exact ⟨i + 1, by omega, by omega, by go_num, hln2, HG.out.2.2.2.1, HZ.out.1, HH.out.2.2.1.kfr HZ.out.2.1 hwB, cy2 (w := w) (i := i) (lo := lo) hN1 hN2 hN3 hz3 HH.out.2.2.2 HZ.out.2⟩
          case measure => simp [intOf]; omega
        · obtain rfl : i = lo.length := by omega
          obtain ⟨W7, hW7⟩ : ∃ W7 : World, W7 = wr := ⟨_, rfl⟩
          subst hW7
          obtain ⟨lc7, lr7, hbc7, hrb7, mc7, mr7⟩ := htwo
          obtain ⟨hrc, hrr, hkeep, hfr7⟩ := hrest
          obtain ⟨Ar7, cr7, hblk7, _, _⟩ := hrb7.form
          have HB7 : Hid (BookAt W7 w1.heap.size w1.heap.size lb) := HB1.out.1.kept (fun kk hf => by
            rcases hf with e | e
            · subst e; exact (hkeep _ (.inl ⟨by omega, by omega⟩)).trans (HS6.out.2.2.2.1 _ (by omega) (by omega))
            · have hty := (HB1.out.1.row_lt e).2
              have h1 := hty.lt
              have h2 : kk ≠ w1.heap.size + 1 := F.ne_of_ty hty HB1.out.2.2.ty (by decide)
              exact (hkeep _ (.inl ⟨h1, h2⟩)).trans (HS6.out.2.2.2.1 _ h1 h2)) (HS6.out.2.2.2.2.1.trans hfr7) (by decide)
          have HA7 : Hid (Sils W7 w1.heap.size 24 (.slice A3 l3.length c3) l3) := ⟨Seq.of_own (own_kept HS6.out.2.2.2.2.2.1 (fun g hg => hkeep g (.inr ⟨(own_ty HA3.out.2.1 g hg).1, (own_ty HA3.out.2.1 g hg).2.lt⟩))), HS6.out.2.2.2.2.2.2.keep hfr7 (by decide)⟩
          have HE1 : Hid (F.rowOf W7 w1.heap.size = F.rowOf W1 w1.heap.size) := F.rowOf_same ((hkeep _ (.inl ⟨by omega, by omega⟩)).trans (HS6.out.2.2.2.1 _ (by omega) (by omega)))
          have hz7 : W3.heap.size ≤ W7.heap.size := hz3
          have HH7 := Lib.hid (And.intro hbc7 (And.intro mc7 (And.intro hrc (And.intro hfr7 (And.intro hblk7 hops)))))
          have hlb7 : lc7.length ≤ 10000 := by rw [mapLen mc7]; omega
          clear hbc7 hrb7 mc7 mr7 hrc hrr hkeep hfr7 hblk7 hops hlen hfit
          go_upto_region 21 with (first
            | (go_at_call 21
               (with_reducible refine (all_any w1.heap.size w1.heap.size lb W7 HB7.out (by omega) hBz).mono ?_)
               rintro e W8 ⟨A8, n8, c8, l8, rfl, hm8, ho8, hk8, hb8⟩
               obtain ⟨A8', c8', hv8⟩ := own_form ho8
               have hn8 : n8 = l8.length := by injection hv8
               subst hn8
               have HX8 : Hid (Sils W8 w1.heap.size 24 (.slice A8 l8.length c8) l8 ∧ Sils W8 w1.heap.size 24 (.slice A3 l3.length c3) l3 ∧ l8.map Prod.fst = l3.map Prod.fst ∧ Below W7.heap.size W7 W8) := ⟨⟨Seq.of_own ho8, hk8⟩, HA7.out.below hb8, by rw [hm8, HB1.out.2.1, HA3.out.1], hb8⟩
               clear hm8 ho8 hk8 hb8 hv8)
            | (go_at_call 27
               refine (same_any _ _ _ _ _ _ w1.heap.size l8 l3 _ (by exact HX8.out.1) (by exact HX8.out.2.1) HX8.out.2.2.1).mono ?_
               rintro e W9 ⟨rfl, hb9⟩
               have HX9 : Hid (BookAt W9 w1.heap.size w1.heap.size lb ∧ Below W7.heap.size W7 W9) := ⟨(HB7.out.below HX8.out.2.2.2).below hb9, HX8.out.2.2.2.trans (hb9.mono HX8.out.2.2.2.size)⟩
               have hz9 : W7.heap.size ≤ W9.heap.size := HX9.out.2.size
               clear hb9)
            | (go_at_call 21
               (with_reducible refine (all_any w1.heap.size w1.heap.size lb W9 HX9.out.1 (by omega) (by omega)).mono ?_)
               rintro e W10 ⟨A10, n10, c10, l10, rfl, hm10, ho10, hk10, hb10⟩
               obtain ⟨A10', c10', hv10⟩ := own_form ho10
               have hn10 : n10 = l10.length := by injection hv10
               subst hn10
               have hz10 : W9.heap.size ≤ W10.heap.size := hb10.size
               have hb710 : Below W7.heap.size W7 W10 := HX9.out.2.trans (hb10.mono hz9)
               have HQ10 := Lib.hid (HH7.out.2.2.2.2.1.below hb710)
               have g10 := HQ10.out.one
               have f10 := HQ10.out.frozen
               have hput := rbook_put (base := w1.heap.size) (by omega) HQ10.out (own_base ho10 (by omega)) hk10
               have HP11 : Hid (Two (W10.setCell ⟨w1.heap.size + 1, 0, none⟩ (.slice A10 l10.length c10)) w1.heap.size w1.heap.size (w1.heap.size + 1) (runM [] (lo.take k)) ∧ OpsAt (W10.setCell ⟨w1.heap.size + 1, 0, none⟩ (.slice A10 l10.length c10)) w.heap.size (.slice A1 lo.length c1) lo ∧ (∀ g, F.rowOf (W10.setCell ⟨w1.heap.size + 1, 0, none⟩ (.slice A10 l10.length c10)) w1.heap.size = some g → g < W1.heap.size ∨ W9.heap.size ≤ g) ∧ (∀ g, F.rowOf (W10.setCell ⟨w1.heap.size + 1, 0, none⟩ (.slice A10 l10.length c10)) (w1.heap.size + 1) = some g → W9.heap.size ≤ g) ∧ (∀ kk, W1.heap.size ≤ kk → kk < W7.heap.size → (W10.setCell ⟨w1.heap.size + 1, 0, none⟩ (.slice A10 l10.length c10)).heap[kk]? = W7.heap[kk]?) ∧ Fr w1.heap.size TT W7 (W10.setCell ⟨w1.heap.size + 1, 0, none⟩ (.slice A10 l10.length c10)) ∧ W10.heap.size ≤ (W10.setCell ⟨w1.heap.size + 1, 0, none⟩ (.slice A10 l10.length c10)).heap.size) := by
                 obtain ⟨p1, p2, p3, p4⟩ := hput
                 have bb := HX9.out.1.below hb10
                 have e7 : F.rowOf W10 w1.heap.size = F.rowOf W7 w1.heap.size := F.rowOf_same (hb710.block _ HB7.out.ty.lt)
                 have e1 := HE1.out
                 refine ⟨⟨lb, l10, bb.kept (fun kk hf => p4 kk ?_) p2 (by decide), p1, HB1.out.2.1, by rw [hm10]; exact HB1.out.2.1⟩, (HH7.out.2.2.2.2.2.kfr (Fr.of_below hb710) hwB).kfr p2 hwB, fun g hg => .inl ?_, fun g hg => ?_, fun kk hk hk7 => (p4 kk (by omega)).trans (hb710.block kk hk7), (Fr.of_below hb710).trans p2, p2.size⟩
                 · rcases hf with e | e
                   · omega
                   · exact F.ne_of_ty (bb.row_lt e).2 HQ10.out.ty (by decide)
                 · rw [F.rowOf_same (p4 _ (by omega)), e7, e1] at hg; exact (HB1.out.1.row_lt hg).2.lt
                 · rw [p3] at hg; exact (own_ty ho10 g hg).1
               clear hm10 ho10 hk10 hb10 hv10 hb710 hput))
          generalize (W10.setCell ⟨w1.heap.size + 1, 0, none⟩ (.slice A10 l10.length c10)) = W11 at HP11 ⊢
          go_wp2
          have hN5 : W1.heap.size ≤ W7.heap.size := by omega
          go_loopw [13] (fun iv wr => CyRel3 w w1 W11 W1.heap.size W7.heap.size k (.slice A1 lo.length c1) lo iv wr) (fun iv _ => lo.length - (intOf iv).toNat)
          case atStart => exact ⟨k, Nat.le_refl _, hkn, rfl, HR1.out.1, HR1.out.2.1, HP11.out.1, HP11.out.2.1, fun g hg => (HP11.out.2.2.1 g hg).imp id (fun h => by omega), fun g hg => by have := HP11.out.2.2.2.1 g hg; omega, fun _ _ _ => rfl, Fr.refl _ _ _⟩
          case round =>
            obtain ⟨i, hki2, hin2, rfl, hlen, hfit, htwo, hops, hrest⟩ := hrel
            have hBz : w1.heap.size ≤ wr.heap.size := by have := hrest.2.2.2.size; have := HP11.out.2.2.2.2.2.2; omega
            have hz5 : W7.heap.size ≤ wr.heap.size := by have := hrest.2.2.2.size; have := HP11.out.2.2.2.2.2.2; omega
            by_cases hlt : i < lo.length
            · skip
              obtain ⟨kind, s, A2, n2, c2, oid, ow, tick, til, cls, A3, n3, c3, ls, b, off, hx, hAe, hb, hat, hmx, hlx, hgf, ⟨k0, k3⟩, ⟨o1, o5⟩, ⟨t0, t1⟩, ⟨u0, u1⟩, ⟨cl0, cl1⟩, hl6, hgl⟩ := hops.open_ i hlt
              subst hAe
              have hstep := runM_next hx
              simp only at hstep
              have hfit2 := opM_fit (sl := runM [] (lo.take i)) (kind := kind) (s := s) (oid := oid) (tick := tick) (til := til) (cls := cls) (ow := ow) (ls := ls) hfit (by unfold GFit at hgf; omega)
              rw [← hstep] at hfit2
              have hln2 : (runM [] (lo.take (i + 1))).length ≤ i + 1 := by have := hfit2.2; omega
              obtain ⟨dd, hdu, hdr⟩ := opUnder
              have HD := Lib.hid (And.intro hdu hdr)
              have HAT := Lib.hid hat
              have HG := Lib.hid (And.intro hmx (And.intro hlx (And.intro hgf (And.intro hfit2.1 hstep))))
              have HH := Lib.hid (And.intro hfit (And.intro htwo (And.intro hops hrest)))
              have hlsl : (runM [] (lo.take i)).length ≤ 10000 := by omega
              clear hfit htwo hops hrest hmx hlx hgf hfit2 hstep hat hgl hdu hdr hx
              go_wp2_with (first
                | (refine wpList_load_mid rfl 42 (.tmp 87) rfl b (off + i * 22) rfl _ _ HAT.out HD.out.1 HD.out.2 opSize ?_)
                | (go_at_call 26
                   refine (F.does_any kind w1.heap.size (w1.heap.size + 1) w1.heap.size (runM [] (lo.take i)) s _ _ _ _ _ _ _ _ _ _ _ _ _ _ _ _ _ ls _ (by exact HH.out.2.1) (by exact hBz) hlsl (by exact Seq.raise' HG.out.1 hwB) (by exact Seq.raise' HG.out.2.1 hwB) HG.out.2.2.1.1 HH.out.1 (by omega) (by omega) (by omega) (by omega) (by omega)).mono ?_
                   rintro e w5 ⟨rfl, ht5, hf5⟩
                   rw [← HG.out.2.2.2.2] at ht5
                   have HZ := Lib.hid (And.intro ht5 hf5)
                   clear ht5 hf5))
              go_wp2
              go_roundw
              case rel => exact ⟨i + 1, by omega, by omega, by go_num, hln2, HG.out.2.2.2.1, HZ.out.1, HH.out.2.2.1.kfr HZ.out.2.1 hwB, cy3 (w := w) (i := i) (lo := lo) hN1 hN5 hz5 HH.out.2.2.2 HZ.out.2⟩
              case measure => simp [intOf]; omega
            · obtain rfl : i = lo.length := by omega
              obtain ⟨W12, hW12⟩ : ∃ W12 : World, W12 = wr := ⟨_, rfl⟩
              subst hW12
              obtain ⟨lb12, lr12, hbb12, hrb12, mb12, mr12⟩ := htwo
              obtain ⟨hr1, hr2, hkeep3, hfr12⟩ := hrest
              have HC12 : Hid (BookAt W12 w1.heap.size W1.heap.size lc7) := HH7.out.1.kept (fun kk hf => by
                have hk1 : W1.heap.size ≤ kk ∧ kk < W7.heap.size := by
                  rcases hf with e | e
                  · subst e; exact ⟨Nat.le_refl _, HH7.out.1.ty.lt⟩
                  · exact ⟨by rcases HH7.out.2.2.1 kk e with h | h <;> omega, (HH7.out.1.row_lt e).2.lt⟩
                exact (hkeep3 kk hk1.1 hk1.2).trans (HP11.out.2.2.2.2.1 kk hk1.1 hk1.2)) (HP11.out.2.2.2.2.2.1.trans hfr12) (by decide)
              have HB12 := Lib.hid (And.intro hbb12 mb12)
              have HF12 : Hid (Fr w1.heap.size TT w1 W12) := ((HR1.out.2.2.2.trans (HS6.out.2.2.2.2.1.trans HH7.out.2.2.2.1)).trans HP11.out.2.2.2.2.2.1).trans hfr12
              have hlb12 : lb12.length ≤ 10000 := by rw [mapLen mb12]; omega
              clear hbb12 hrb12 mb12 mr12 hr1 hr2 hkeep3 hfr12 hops hlen hfit
              go_wp2_with (first
                | (go_at_call 21
                   (with_reducible refine (all_any w1.heap.size w1.heap.size lb12 W12 HB12.out.1 (by omega) hBz).mono ?_)
                   rintro e W13 ⟨A13, n13, c13, l13, rfl, hm13, ho13, hk13, hb13⟩
                   obtain ⟨A13', c13', hv13⟩ := own_form ho13
                   have hn13 : n13 = l13.length := by injection hv13
                   subst hn13
                   have hz13 : W12.heap.size ≤ W13.heap.size := hb13.size
                   have HX13 : Hid (Sils W13 w1.heap.size 24 (.slice A13 l13.length c13) l13 ∧ BookAt W13 w1.heap.size W1.heap.size lc7 ∧ l13.map Prod.fst = lc7.map Prod.fst ∧ Fr w1.heap.size TT w1 W13) := ⟨⟨Seq.of_own ho13, hk13⟩, HC12.out.below hb13, by rw [hm13, HB12.out.2, HH7.out.2.1], HF12.out.then_ hb13⟩
                   clear hm13 ho13 hk13 hb13 hv13)
                | (go_at_call 21
                   (with_reducible refine (all_any W1.heap.size w1.heap.size lc7 W13 HX13.out.2.1 (by omega) (by omega)).mono ?_)
                   rintro e W14 ⟨A14, n14, c14, l14, rfl, hm14, ho14, hk14, hb14⟩
                   obtain ⟨A14', c14', hv14⟩ := own_form ho14
                   have hn14 : n14 = l14.length := by injection hv14
                   subst hn14
                   have HX14 : Hid (Sils W14 w1.heap.size 24 (.slice A13 l13.length c13) l13 ∧ Sils W14 w1.heap.size 24 (.slice A14 l14.length c14) l14 ∧ l13.map Prod.fst = l14.map Prod.fst ∧ Fr w1.heap.size TT w1 W14) := ⟨HX13.out.1.below hb14, ⟨Seq.of_own ho14, hk14⟩, by rw [hm14, HX13.out.2.2.1], HX13.out.2.2.2.then_ hb14⟩
                   clear hm14 ho14 hk14 hb14 hv14)
                | (go_at_call 27
                   refine (same_any _ _ _ _ _ _ w1.heap.size l13 l14 _ (by exact HX14.out.1) (by exact HX14.out.2.1) HX14.out.2.2.1).mono ?_
                   rintro e W15 ⟨rfl, hb15⟩
                   have HX15 := Lib.hid (HX14.out.2.2.2.then_ hb15)
                   clear hb15)
                | (go_at_call 15; refine (lives_true _).mono ?_; rintro e W16 ⟨rfl, hb16⟩; have HX16 := Lib.hid (HX15.out.then_ hb16); clear hb16))
              go_ret
              exact ⟨rfl, HO1.out.2.trans (HX16.out.to_below.mono hwB)⟩
end Go.Proofs.Ytoafpajibeejlaa
