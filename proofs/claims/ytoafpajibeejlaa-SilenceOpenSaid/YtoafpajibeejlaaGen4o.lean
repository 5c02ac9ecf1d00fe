/- The generator of silences: the row of its matchers is owned. -/
import Derived.Test.YtoafpajibeejlaaGen2o
set_option linter.unusedVariables false
set_option linter.unusedSimpArgs false
namespace Go.Proofs.Ytoafpajibeejlaa
open Go.RowKit

def RetGO (w : World) (tick : Int) (e : Ending) (w' : World) : Prop := ∃ (s : Sil) (A : Option Addr) (n c : Nat), e = .returned (.agg #[.int .i64 s.id, .slice A n c, .string s.ow, .string s.se, .int .i64 s.cl, .int .i64 s.fr, .int .i64 s.un, .int .i64 s.cp, .int .i64 s.hd]) ∧ w'.ownsRow w.heap.size 27 3 (.slice A n c) s.ms.length (s.ms.flatMap matCells) ∧ GFit tick s ∧ Below w.heap.size w w'
set_option maxRecDepth 100000 in
set_option maxHeartbeats 2000000 in
theorem gsil_own (A : Option Addr) (n c base : Nat) (l : List Int) (at_ tick : Int) (w : World) (h : Ints w base (.slice A n c) l) (hbase : base ≤ w.heap.size) (h1 : 0 ≤ at_) (h2 : at_ ≤ 1000) (h3 : 0 ≤ tick) (h4 : tick ≤ 4000000) :
    Calls Try.prog 13 #[.slice A n c, .int .i64 at_, .int .i64 tick] w (RetGO w tick) := by
  have HI := Lib.hid h
  obtain ⟨hp1, hp2⟩ := pick_bd l at_ 100000 (by omega)
  obtain ⟨hp3, hp4⟩ := pick_bd l (at_ + 1) 100000 (by omega)
  clear h
  go_enter Try.func13, Try.ntmps13
  go_upto_region 3 with (go_at_call 22; refine (pick_any _ _ _ base l _ _ _ (by exact HI.out.below (bel1 _ _)) (by omega) (by omega)).mono ?_; rintro e w' ⟨rfl, rfl⟩)
  generalize pickZ l at_ 100000 = nn at *
  generalize pickZ l (at_ + 1) 100000 = mm at *
  go_cut [9] (fun s9 wx => GCut w tick s9 wx)
  case first =>
    obtain ⟨i1, k1, k1a, k1b⟩ : ∃ i1 : Int, nn.tmod 3 = i1 ∧ 0 ≤ i1 ∧ i1 < 4 := ⟨nn % 3, Int.tmod_eq_emod_of_nonneg hp1, by omega, by omega⟩
    obtain ⟨q1, k2, k2w, i2, k3, k3a, k3b⟩ : ∃ q1, nn.tdiv 3 = q1 ∧ IntKind.i64.wrap q1 = q1 ∧ ∃ i2 : Int, q1.tmod 4 = i2 ∧ 0 ≤ i2 ∧ i2 < 4 := ⟨nn / 3, Int.tdiv_eq_ediv_of_nonneg hp1, by rw [IntWalk.i64_in _ (by omega)], _, Int.tmod_eq_emod_of_nonneg (by omega), by omega, by omega⟩
    obtain ⟨q2, k4, k4w, c1, k5, k6, k7, k8⟩ : ∃ q1, nn.tdiv 12 = q1 ∧ IntKind.i64.wrap q1 = q1 ∧ ∃ c : Int, q1.tmod 3 = c ∧ 0 ≤ c ∧ c ≤ 2 ∧ IntKind.i64.wrap (1 + c) = 1 + c := ⟨nn / 12, Int.tdiv_eq_ediv_of_nonneg hp1, by rw [IntWalk.i64_in _ (by omega)], _, Int.tmod_eq_emod_of_nonneg (by omega), by omega, by omega, by rw [IntWalk.i64_in _ (by omega)]⟩
    obtain ⟨q3, k9, k9w, c2, k10, k11, k12, k13⟩ : ∃ q1, nn.tdiv 36 = q1 ∧ IntKind.i64.wrap q1 = q1 ∧ ∃ c : Int, q1.tmod 3 = c ∧ 0 ≤ c ∧ c ≤ 2 ∧ IntKind.i64.wrap (1 + c) = 1 + c := ⟨nn / 36, Int.tdiv_eq_ediv_of_nonneg hp1, by rw [IntWalk.i64_in _ (by omega)], _, Int.tmod_eq_emod_of_nonneg (by omega), by omega, by omega, by rw [IntWalk.i64_in _ (by omega)]⟩
    obtain ⟨q4, k14, k14w, c3, k15, k16, k17, k18⟩ : ∃ q1, nn.tdiv 108 = q1 ∧ IntKind.i64.wrap q1 = q1 ∧ ∃ c : Int, q1.tmod 3 = c ∧ 0 ≤ c ∧ c ≤ 2 ∧ IntKind.i64.wrap (tick + c) = tick + c := ⟨nn / 108, Int.tdiv_eq_ediv_of_nonneg hp1, by rw [IntWalk.i64_in _ (by omega)], _, Int.tmod_eq_emod_of_nonneg (by omega), by omega, by omega, by rw [IntWalk.i64_in _ (by omega)]⟩
    obtain ⟨x1, hx1m, hx1⟩ := pers_at i1 k1a k1b
    obtain ⟨x2, hx2m, hx2⟩ := pers_at i2 k3a k3b
    go_region_with (go_at_call 31; refine (persons_any _).mono ?_; rintro e w' ⟨rfl, rfl⟩)
    all_goals
      go_wp2_with fail
      go_meet
      refine ⟨_, x1, x2, c1, c2, c3, rfl, by omega, hx1m, hx2m, ⟨k6, k7⟩, ⟨k11, k12⟩, ⟨k16, k17⟩, ?_, ?_, ?_⟩
      · refine Blk.drew ?_
        first
          | exact Blk.newAt _ _ (by simp)
          | exact (Blk.newAt _ _ (by simp)).below (bel1 _ _)
          | exact ((Blk.newAt _ _ (by simp)).below (bel1 _ _)).below (bel1 _ _)
      · refine Blk.drew ?_
        exact (((Blk.newAt _ _ rfl).below (bel1 _ _)).below (bel1 _ _)).below (bel1 _ _)
      · exact ((((bel1 w _).alloc (by simp) _).alloc (by simp; omega) _).alloc (by simp; omega) _).drew
  case rest =>
    obtain ⟨sb, x1, x2, c1, c2, c3, rfl, hsb, hx1, hx2, ⟨c1a, c1b⟩, ⟨c2a, c2b⟩, ⟨c3a, c3b⟩, hbs, hbr, hbw⟩ := hcut
    obtain ⟨d0, d1, d2, d3, d4, d5, d6, d7, d8⟩ := hbs.nine
    have df := hbs.frozen
    have hsl := hbs.ty.lt
    have hsz := hbw.size
    have HB := Lib.hid (And.intro hbs (And.intro hbr hbw))
    have HX := Lib.hid (And.intro hx1 hx2)
    clear hbs hbr hbw hx1 hx2
    go_upto_region 6 with (go_at_call 32; refine (matchers_own _ _ _ base [mm / 12 % 3, 0, mm / 36, mm / 108, 5, mm / 648, mm / 7] _ (by exact Ints.newAt _ _ rfl (by simp [World.setCell]) (by simp) (by intro x hx; simp at hx; unfold I64; rcases hx with rfl | rfl | rfl | rfl | rfl | rfl | rfl <;> omega)) (by simp [World.setCell]; omega)).mono ?_; rintro e w3 ⟨ms, AM, nM, cM, rfl, hmm0, hml, hmg, hbm⟩; have hmm := own_base (B' := w.heap.size) hmm0 (by simp [World.setCell]; omega); clear hmm0; obtain ⟨hc3, hf3⟩ := bcell hbm; have hz3 := hbm.size; have HM := Lib.hid (And.intro hmm (And.intro hbm (And.intro hml hmg))); clear hmm hbm hml hmg)
    have HW : Hid (Blk (w3.setCell ⟨sb, 1, none⟩ (.slice AM nM cM)) sb 24 #[.int .i64 7, .slice AM nM cM, .string x1, .string x2, .int .i64 (1 + c1), .int .i64 (tick + c3), .int .i64 (tick + c3 + 1 + mm % 12), .int .i64 (1 + c2), .int .i64 5] ∧ Blk (w3.setCell ⟨sb, 1, none⟩ (.slice AM nM cM)) w.heap.size 24 #[.int .i64 0, .slice none 0 0, .string ⟨#[]⟩, .string ⟨#[]⟩, .int .i64 0, .int .i64 0, .int .i64 0, .int .i64 0, .int .i64 0] ∧ (w3.setCell ⟨sb, 1, none⟩ (.slice AM nM cM)).ownsRow w.heap.size 27 3 (.slice AM nM cM) ms.length (ms.flatMap matCells) ∧ Below w.heap.size w (w3.setCell ⟨sb, 1, none⟩ (.slice AM nM cM))) := by
      have b1 := ((HB.out.1.set 6 (.int .i64 (tick + c3 + 1 + mm % 12))).below (bel1 _ _)).below HM.out.2.1
      have b2 := ((HB.out.2.1.far (p := ⟨sb, 6, none⟩) (by simp; omega) (.int .i64 (tick + c3 + 1 + mm % 12))).below (bel1 _ _)).below HM.out.2.1
      have h1 : Below w.heap.size w w3 := ((HB.out.2.2.setCell (p := ⟨sb, 6, none⟩) (by simp only; omega) _).alloc (by simp [World.setCell]; omega) _).trans (HM.out.2.1.mono (by simp [World.setCell]; omega))
      exact ⟨b1.set 1 _, b2.far (by simp; omega) _, own_fr HM.out.1 (Fr.setAt (Fr.refl base [24] _) b1.ty (by decide) (by omega) 1 _) (by decide), h1.setCell (p := ⟨sb, 1, none⟩) (by simp only; omega) _⟩
    have HML := Lib.hid HM.out.2.2
    clear hc3 hf3 hz3 HM HB d0 d1 d2 d3 d4 d5 d6 d7 d8 df hsl hsz
    obtain ⟨W8, hW8⟩ : ∃ W8, W8 = w3.setCell ⟨sb, 1, none⟩ (.slice AM nM cM) := ⟨_, rfl⟩
    rw [← hW8] at HW ⊢
    clear hW8
    obtain ⟨d0, d1, d2, d3, d4, d5, d6, d7, d8⟩ := HW.out.1.nine
    have df := HW.out.1.frozen
    obtain ⟨r0, r1, r2, r3, r4, r5, r6, r7, r8⟩ := HW.out.2.1.nine
    have rf := HW.out.2.1.frozen
    have hne1 : ¬ sb = w.heap.size := by omega
    have hne2 : ¬ w.heap.size = sb := by omega
    go_wp2
    · refine bodyPost_ret (v := .agg #[.int .i64 7, .slice AM nM cM, .string x1, .string x2, .int .i64 (1 + c1), .int .i64 (tick + c3), .int .i64 (tick + c3), .int .i64 (1 + c2), .int .i64 5]) (by simp [results, Try.results13, go_sem, r0, r1, r2, r3, r4, r5, r6, r7, r8]) rfl ⟨⟨7, ms, x1, x2, 1 + c1, tick + c3, tick + c3, 1 + c2, 5⟩, AM, nM, cM, rfl, own_fr HW.out.2.2.1 ((Fr.set (Fr.refl base [24] W8) (t := 24) HW.out.1.ty (by decide) (by simp only; omega) _).trans (fr_set9 (HW.out.2.1.ty.set _ _) (by decide) hbase _ _ _ _ _ _ _ _ _)) (by decide), ⟨⟨good_ok (by have := HML.out.1; simp only; omega) HML.out.2, pers_size _ HX.out.1, pers_size _ HX.out.2, by simp only; omega⟩, HML.out.1, HML.out.2, ⟨by simp only; omega, by simp only; omega⟩, ⟨by simp only; omega, by simp only; omega⟩, ⟨by simp only; omega, by simp only; omega⟩, ⟨by simp only; omega, by simp only; omega⟩⟩, ((HW.out.2.2.2.setCell (by simp only; omega) _).trans (below_set9 _ (Nat.le_refl _) _ _ _ _ _ _ _ _ _))⟩
    · refine bodyPost_ret (v := .agg #[.int .i64 7, .slice AM nM cM, .string x1, .string x2, .int .i64 (1 + c1), .int .i64 (tick + c3), .int .i64 (tick + c3 + 1000 + mm % 2), .int .i64 (1 + c2), .int .i64 5]) (by simp [results, Try.results13, go_sem, r0, r1, r2, r3, r4, r5, r6, r7, r8]) rfl ⟨⟨7, ms, x1, x2, 1 + c1, tick + c3, tick + c3 + 1000 + mm % 2, 1 + c2, 5⟩, AM, nM, cM, rfl, own_fr HW.out.2.2.1 ((Fr.set (Fr.refl base [24] W8) (t := 24) HW.out.1.ty (by decide) (by simp only; omega) _).trans (fr_set9 (HW.out.2.1.ty.set _ _) (by decide) hbase _ _ _ _ _ _ _ _ _)) (by decide), ⟨⟨good_ok (by have := HML.out.1; simp only; omega) HML.out.2, pers_size _ HX.out.1, pers_size _ HX.out.2, by simp only; omega⟩, HML.out.1, HML.out.2, ⟨by simp only; omega, by simp only; omega⟩, ⟨by simp only; omega, by simp only; omega⟩, ⟨by simp only; omega, by simp only; omega⟩, ⟨by simp only; omega, by simp only; omega⟩⟩, ((HW.out.2.2.2.setCell (by simp only; omega) _).trans (below_set9 _ (Nat.le_refl _) _ _ _ _ _ _ _ _ _))⟩
    · refine bodyPost_ret (v := .agg #[.int .i64 7, .slice AM nM cM, .string x1, .string x2, .int .i64 (1 + c1), .int .i64 (tick - 1), .int .i64 (tick + c3 + 1 + mm % 12), .int .i64 (1 + c2), .int .i64 5]) (by simp [results, Try.results13, go_sem, r0, r1, r2, r3, r4, r5, r6, r7, r8]) rfl ⟨⟨7, ms, x1, x2, 1 + c1, tick - 1, tick + c3 + 1 + mm % 12, 1 + c2, 5⟩, AM, nM, cM, rfl, own_fr HW.out.2.2.1 ((Fr.set (Fr.refl base [24] W8) (t := 24) HW.out.1.ty (by decide) (by simp only; omega) _).trans (fr_set9 (HW.out.2.1.ty.set _ _) (by decide) hbase _ _ _ _ _ _ _ _ _)) (by decide), ⟨⟨good_ok (by have := HML.out.1; simp only; omega) HML.out.2, pers_size _ HX.out.1, pers_size _ HX.out.2, by simp only; omega⟩, HML.out.1, HML.out.2, ⟨by simp only; omega, by simp only; omega⟩, ⟨by simp only; omega, by simp only; omega⟩, ⟨by simp only; omega, by simp only; omega⟩, ⟨by simp only; omega, by simp only; omega⟩⟩, ((HW.out.2.2.2.setCell (by simp only; omega) _).trans (below_set9 _ (Nat.le_refl _) _ _ _ _ _ _ _ _ _))⟩
    · refine bodyPost_ret (v := .agg #[.int .i64 7, .slice AM nM cM, .string x1, .string x2, .int .i64 (4 * (mm % 2)), .int .i64 (tick + c3), .int .i64 (tick + c3 + 1 + mm % 12), .int .i64 (1 + c2), .int .i64 5]) (by simp [results, Try.results13, go_sem, r0, r1, r2, r3, r4, r5, r6, r7, r8]) rfl ⟨⟨7, ms, x1, x2, 4 * (mm % 2), tick + c3, tick + c3 + 1 + mm % 12, 1 + c2, 5⟩, AM, nM, cM, rfl, own_fr HW.out.2.2.1 ((Fr.set (Fr.refl base [24] W8) (t := 24) HW.out.1.ty (by decide) (by simp only; omega) _).trans (fr_set9 (HW.out.2.1.ty.set _ _) (by decide) hbase _ _ _ _ _ _ _ _ _)) (by decide), ⟨⟨good_ok (by have := HML.out.1; simp only; omega) HML.out.2, pers_size _ HX.out.1, pers_size _ HX.out.2, by simp only; omega⟩, HML.out.1, HML.out.2, ⟨by simp only; omega, by simp only; omega⟩, ⟨by simp only; omega, by simp only; omega⟩, ⟨by simp only; omega, by simp only; omega⟩, ⟨by simp only; omega, by simp only; omega⟩⟩, ((HW.out.2.2.2.setCell (by simp only; omega) _).trans (below_set9 _ (Nat.le_refl _) _ _ _ _ _ _ _ _ _))⟩
    · refine bodyPost_ret (v := .agg #[.int .i64 7, .slice AM nM cM, .string x1, .string x2, .int .i64 (1 + c1), .int .i64 (tick + c3), .int .i64 (tick + c3 + 1 + mm % 12), .int .i64 (101 * (mm % 2)), .int .i64 5]) (by simp [results, Try.results13, go_sem, r0, r1, r2, r3, r4, r5, r6, r7, r8]) rfl ⟨⟨7, ms, x1, x2, 1 + c1, tick + c3, tick + c3 + 1 + mm % 12, 101 * (mm % 2), 5⟩, AM, nM, cM, rfl, own_fr HW.out.2.2.1 ((Fr.set (Fr.refl base [24] W8) (t := 24) HW.out.1.ty (by decide) (by simp only; omega) _).trans (fr_set9 (HW.out.2.1.ty.set _ _) (by decide) hbase _ _ _ _ _ _ _ _ _)) (by decide), ⟨⟨good_ok (by have := HML.out.1; simp only; omega) HML.out.2, pers_size _ HX.out.1, pers_size _ HX.out.2, by simp only; omega⟩, HML.out.1, HML.out.2, ⟨by simp only; omega, by simp only; omega⟩, ⟨by simp only; omega, by simp only; omega⟩, ⟨by simp only; omega, by simp only; omega⟩, ⟨by simp only; omega, by simp only; omega⟩⟩, ((HW.out.2.2.2.setCell (by simp only; omega) _).trans (below_set9 _ (Nat.le_refl _) _ _ _ _ _ _ _ _ _))⟩
    · refine bodyPost_ret (v := .agg #[.int .i64 7, .slice AM nM cM, .string ⟨#[]⟩, .string x2, .int .i64 (1 + c1), .int .i64 (tick + c3), .int .i64 (tick + c3 + 1 + mm % 12), .int .i64 (1 + c2), .int .i64 5]) (by simp [results, Try.results13, go_sem, r0, r1, r2, r3, r4, r5, r6, r7, r8]) rfl ⟨⟨7, ms, ⟨#[]⟩, x2, 1 + c1, tick + c3, tick + c3 + 1 + mm % 12, 1 + c2, 5⟩, AM, nM, cM, rfl, own_fr HW.out.2.2.1 ((Fr.set (Fr.refl base [24] W8) (t := 24) HW.out.1.ty (by decide) (by simp only; omega) _).trans (fr_set9 (HW.out.2.1.ty.set _ _) (by decide) hbase _ _ _ _ _ _ _ _ _)) (by decide), ⟨⟨good_ok (by have := HML.out.1; simp only; omega) HML.out.2, by show (⟨#[]⟩ : ByteArray).size ≤ maxLen; unfold maxLen; decide, pers_size _ HX.out.2, by simp only; omega⟩, HML.out.1, HML.out.2, ⟨by simp only; omega, by simp only; omega⟩, ⟨by simp only; omega, by simp only; omega⟩, ⟨by simp only; omega, by simp only; omega⟩, ⟨by simp only; omega, by simp only; omega⟩⟩, ((HW.out.2.2.2.setCell (by simp only; omega) _).trans (below_set9 _ (Nat.le_refl _) _ _ _ _ _ _ _ _ _))⟩
    · refine bodyPost_ret (v := .agg #[.int .i64 7, .slice AM nM cM, .string x1, .string x2, .int .i64 (1 + c1), .int .i64 (tick + c3), .int .i64 (tick + c3 + 1 + mm % 12), .int .i64 (1 + c2), .int .i64 5]) (by simp [results, Try.results13, go_sem, r0, r1, r2, r3, r4, r5, r6, r7, r8]) rfl ⟨⟨7, ms, x1, x2, 1 + c1, tick + c3, tick + c3 + 1 + mm % 12, 1 + c2, 5⟩, AM, nM, cM, rfl, own_fr HW.out.2.2.1 (fr_set9 (T := [24]) HW.out.2.1.ty (by decide) hbase _ _ _ _ _ _ _ _ _) (by decide), ⟨⟨good_ok (by have := HML.out.1; simp only; omega) HML.out.2, pers_size _ HX.out.1, pers_size _ HX.out.2, by simp only; omega⟩, HML.out.1, HML.out.2, ⟨by simp only; omega, by simp only; omega⟩, ⟨by simp only; omega, by simp only; omega⟩, ⟨by simp only; omega, by simp only; omega⟩, ⟨by simp only; omega, by simp only; omega⟩⟩, (HW.out.2.2.2.trans (below_set9 _ (Nat.le_refl _) _ _ _ _ _ _ _ _ _))⟩
end Go.Proofs.Ytoafpajibeejlaa
