/- The generator of silences. -/
import Derived.Test.YtoafpajibeejlaaGen3
import Derived.Deep.RegionWith
import Derived.Deep.DeepCutAuto
set_option linter.unusedVariables false
set_option linter.unusedSimpArgs false
namespace Go.Proofs.Ytoafpajibeejlaa
open Go.RowKit

theorem pers_at (i : Int) (h0 : 0 ≤ i) (h1 : i < 4) : ∃ x, x ∈ persons ∧ ∀ (W : World) (k : Nat), W.heap.size = k → (W.alloc (.cells #[.string ⟨#[97, 110, 110]⟩, .string ⟨#[98, 111, 98]⟩, .string ⟨#[99, 121]⟩, .string ⟨#[]⟩] 9)).cell? ⟨k, i.toNat, none⟩ = some (.string x) := by
  have hc : ∀ (W : World) (k j : Nat), W.heap.size = k → (W.alloc (.cells #[.string ⟨#[97, 110, 110]⟩, .string ⟨#[98, 111, 98]⟩, .string ⟨#[99, 121]⟩, .string ⟨#[]⟩] 9)).cell? ⟨k, j, none⟩ = (#[.string ⟨#[97, 110, 110]⟩, .string ⟨#[98, 111, 98]⟩, .string ⟨#[99, 121]⟩, .string ⟨#[]⟩] : Array Value)[j]? := by
    intro W k j h
    subst h
    exact cell_of_row _ _ _ _ _ _ (heap_alloc_new W _)
  rcases (show i = 0 ∨ i = 1 ∨ i = 2 ∨ i = 3 by omega) with rfl | rfl | rfl | rfl
  · exact ⟨_, by simp [persons], fun W k h => (hc W k 0 h).trans rfl⟩
  · exact ⟨⟨#[98, 111, 98]⟩, by simp [persons], fun W k h => (hc W k 1 h).trans rfl⟩
  · exact ⟨⟨#[99, 121]⟩, by simp [persons], fun W k h => (hc W k 2 h).trans rfl⟩
  · exact ⟨⟨#[]⟩, by simp [persons], fun W k h => (hc W k 3 h).trans rfl⟩

theorem Blk.newAt {w : World} {k : Nat} (cs : Array Value) (t : TypeId) (h : w.heap.size = k) : Blk (w.alloc (.cells cs t)) k t cs := by subst h; exact Blk.new _ _ _
theorem Blk.drew {w : World} {g : Nat} {t : TypeId} {cs : Array Value} (h : Blk w g t cs) : Blk w.drew g t cs := h
/-- what stands behind the literal -/
def GCut (w : World) (tick : Int) (s9 : Value) (wx : World) : Prop := ∃ (sb : Nat) (x1 x2 : ByteArray) (c1 c2 c3 : Int), s9 = .pointer (some ⟨sb, 0, none⟩) ∧ w.heap.size < sb ∧ x1 ∈ persons ∧ x2 ∈ persons ∧ (0 ≤ c1 ∧ c1 ≤ 2) ∧ (0 ≤ c2 ∧ c2 ≤ 2) ∧ (0 ≤ c3 ∧ c3 ≤ 2) ∧
  Blk wx sb 24 #[.int .i64 7, .slice none 0 0, .string x1, .string x2, .int .i64 (1 + c1), .int .i64 (tick + c3), .int .i64 0, .int .i64 (1 + c2), .int .i64 5] ∧ Blk wx w.heap.size 24 #[.int .i64 0, .slice none 0 0, .string ⟨#[]⟩, .string ⟨#[]⟩, .int .i64 0, .int .i64 0, .int .i64 0, .int .i64 0, .int .i64 0] ∧ Below w.heap.size w wx
theorem Ints.new (w : World) (base : Nat) (l : List Int) (cs : Array Value) (h : cs.toList = l.map (Value.int .i64)) (hl : l.length ≤ 1000) (hb : ∀ x ∈ l, I64 x) : Ints (w.alloc (.cells cs 3)) base (.slice (some ⟨w.heap.size, 0, none⟩) l.length l.length) l := by
  refine ⟨⟨by simp, _, _, rfl, Nat.le_refl _, by unfold maxLen; omega, fun _ => ⟨w.heap.size, 0, rfl, ⟨by simp, .inr ⟨_, _, heap_alloc_new w _⟩⟩, ?_⟩⟩, hb⟩
  intro j u hj
  rw [← h] at hj
  have := cell_of_row (w.alloc (.cells cs 3)) w.heap.size (0 + j) cs 3 (0, 0) (heap_alloc_new w _)
  rw [this, Nat.zero_add]
  simpa using hj
theorem Ints.newAt {w : World} {base k : Nat} (l : List Int) (cs : Array Value) (h : cs.toList = l.map (Value.int .i64)) (hk : w.heap.size = k) (hl : l.length ≤ 1000) (hb : ∀ x ∈ l, I64 x) : Ints (w.alloc (.cells cs 3)) base (.slice (some ⟨k, 0, none⟩) l.length l.length) l := by subst hk; exact Ints.new w base l cs h hl hb
theorem pers_size (x : ByteArray) (h : x ∈ persons) : x.size ≤ maxLen := by
  simp [persons] at h
  rcases h with rfl | rfl | rfl | rfl <;> (unfold maxLen; decide)
def GFit (tick : Int) (s : Sil) : Prop := SilFit s ∧ s.ms.length ≤ 3 ∧ (∀ m ∈ s.ms, GoodMat m) ∧ (0 ≤ s.cl ∧ s.cl ≤ 4) ∧ (tick - 1 ≤ s.fr ∧ s.fr ≤ tick + 2) ∧ (0 ≤ s.un ∧ s.un ≤ 5000000) ∧ (0 ≤ s.cp ∧ s.cp ≤ 101)
/-- a silence is returned -/
def RetG (w : World) (base : Nat) (tick : Int) (e : Ending) (w' : World) : Prop := ∃ s A n c, e = .returned (.agg #[.int .i64 s.id, .slice A n c, .string s.ow, .string s.se, .int .i64 s.cl, .int .i64 s.fr, .int .i64 s.un, .int .i64 s.cp, .int .i64 s.hd]) ∧ Mats w' base (.slice A n c) s.ms ∧ GFit tick s ∧ Below w.heap.size w w'

set_option maxRecDepth 100000 in
set_option maxHeartbeats 2000000 in
theorem gsil_any (A : Option Addr) (n c base : Nat) (l : List Int) (at_ tick : Int) (w : World) (h : Ints w base (.slice A n c) l) (hbase : base ≤ w.heap.size) (h1 : 0 ≤ at_) (h2 : at_ ≤ 1000) (h3 : 0 ≤ tick) (h4 : tick ≤ 4000000) :
    Calls Try.prog 13 #[.slice A n c, .int .i64 at_, .int .i64 tick] w (RetG w base tick) := by
  have HI := Lib.hid h
  obtain ⟨hp1, hp2⟩ := pick_bd l at_ 100000 (by omega)
  obtain ⟨hp3, hp4⟩ := pick_bd l (at_ + 1) 100000 (by omega)
  clear h
  go_enter Try.func13, Try.ntmps13
  go_upto_region 3 with (go_at_call 22; refine (pick_any _ _ _ base l _ _ _ (by exact HI.out.below (bel1 _ _)) (by omega) (by omega)).mono ?_; rintro e w' ⟨rfl, rfl⟩)
  generalize pickZ l at_ 100000 = nn at *
  generalize pickZ l (at_ + 1) 100000 = mm at *
  go_cut [9] (fun s9 wx => GCut w tick s9 wx)
  case first =>
    obtain ⟨i1, k1, k1a, k1b⟩ : ∃ i1 : Int, nn.tmod 3 = i1 ∧ 0 ≤ i1 ∧ i1 < 4 := ⟨nn % 3, Int.tmod_eq_emod_of_nonneg hp1, by omega, by omega⟩
    obtain ⟨q1, k2, k2w, i2, k3, k3a, k3b⟩ : ∃ q1, nn.tdiv 3 = q1 ∧ IntKind.i64.wrap q1 = q1 ∧ ∃ i2 : Int, q1.tmod 4 = i2 ∧ 0 ≤ i2 ∧ i2 < 4 := ⟨nn / 3, Int.tdiv_eq_ediv_of_nonneg hp1, by rw [IntWalk.i64_in _ (by omega)], _, Int.tmod_eq_emod_of_nonneg (by omega), by omega, by omega⟩
    obtain ⟨q2, k4, k4w, c1, k5, k6, k7, k8⟩ : ∃ q1, nn.tdiv 12 = q1 ∧ IntKind.i64.wrap q1 = q1 ∧ ∃ c : Int, q1.tmod 3 = c ∧ 0 ≤ c ∧ c ≤ 2 ∧ IntKind.i64.wrap (1 + c) = 1 + c := ⟨nn / 12, Int.tdiv_eq_ediv_of_nonneg hp1, by rw [IntWalk.i64_in _ (by omega)], _, Int.tmod_eq_emod_of_nonneg (by omega), by omega, by omega, by rw [IntWalk.i64_in _ (by omega)]⟩
    obtain ⟨q3, k9, k9w, c2, k10, k11, k12, k13⟩ : ∃ q1, nn.tdiv 36 = q1 ∧ IntKind.i64.wrap q1 = q1 ∧ ∃ c : Int, q1.tmod 3 = c ∧ 0 ≤ c ∧ c ≤ 2 ∧ IntKind.i64.wrap (1 + c) = 1 + c := ⟨nn / 36, Int.tdiv_eq_ediv_of_nonneg hp1, by rw [IntWalk.i64_in _ (by omega)], _, Int.tmod_eq_emod_of_nonneg (by omega), by omega, by omega, by rw [IntWalk.i64_in _ (by omega)]⟩
    obtain ⟨q4, k14, k14w, c3, k15, k16, k17, k18⟩ : ∃ q1, nn.tdiv 108 = q1 ∧ IntKind.i64.wrap q1 = q1 ∧ ∃ c : Int, q1.tmod 3 = c ∧ 0 ≤ c ∧ c ≤ 2 ∧ IntKind.i64.wrap (tick + c) = tick + c := ⟨nn / 108, Int.tdiv_eq_ediv_of_nonneg hp1, by rw [IntWalk.i64_in _ (by omega)], _, Int.tmod_eq_emod_of_nonneg (by omega), by omega, by omega, by rw [IntWalk.i64_in _ (by omega)]⟩
    obtain ⟨x1, hx1m, hx1⟩ := pers_at i1 k1a k1b
    obtain ⟨x2, hx2m, hx2⟩ := pers_at i2 k3a k3b
    go_region_with (go_at_call 31; refine (persons_any _).mono ?_; rintro e w' ⟨rfl, rfl⟩)
    all_goals
      go_wp2_with fail
      go_meet
      refine ⟨_, x1, x2, c1, c2, c3, rfl, by omega, hx1m, hx2m, ⟨k6, k7⟩, ⟨k11, k12⟩, ⟨k16, k17⟩, ?_, ?_, ?_⟩
      · refine Blk.drew ?_
        first
          | exact Blk.newAt _ _ (by simp)
          | exact (Blk.newAt _ _ (by simp)).below (bel1 _ _)
          | exact ((Blk.newAt _ _ (by simp)).below (bel1 _ _)).below (bel1 _ _)
      · refine Blk.drew ?_
        exact (((Blk.newAt _ _ rfl).below (bel1 _ _)).below (bel1 _ _)).below (bel1 _ _)
      · exact ((((bel1 w _).alloc (by simp) _).alloc (by simp; omega) _).alloc (by simp; omega) _).drew
  case rest =>
    obtain ⟨sb, x1, x2, c1, c2, c3, rfl, hsb, hx1, hx2, ⟨c1a, c1b⟩, ⟨c2a, c2b⟩, ⟨c3a, c3b⟩, hbs, hbr, hbw⟩ := hcut
    obtain ⟨d0, d1, d2, d3, d4, d5, d6, d7, d8⟩ := hbs.nine
    have df := hbs.frozen
    have hsl := hbs.ty.lt
    have hsz := hbw.size
    have HB := Lib.hid (And.intro hbs (And.intro hbr hbw))
    have HX := Lib.hid (And.intro hx1 hx2)
    clear hbs hbr hbw hx1 hx2
    go_upto_region 6 with (go_at_call 32; refine (matchers_any _ _ _ base [mm / 12 % 3, 0, mm / 36, mm / 108, 5, mm / 648, mm / 7] _ (by exact Ints.newAt _ _ rfl (by simp [World.setCell]) (by simp) (by intro x hx; simp at hx; unfold I64; rcases hx with rfl | rfl | rfl | rfl | rfl | rfl | rfl <;> omega)) (by simp [World.setCell]; omega)).mono ?_; rintro e w3 ⟨ms, ⟨AM, nM, cM, rfl, hmm, hbm⟩, hml, hmg⟩; obtain ⟨hc3, hf3⟩ := bcell hbm; have hz3 := hbm.size; have HM := Lib.hid (And.intro hmm (And.intro hbm (And.intro hml hmg))); clear hmm hbm hml hmg)
    have HW : Hid (Blk (w3.setCell ⟨sb, 1, none⟩ (.slice AM nM cM)) sb 24 #[.int .i64 7, .slice AM nM cM, .string x1, .string x2, .int .i64 (1 + c1), .int .i64 (tick + c3), .int .i64 (tick + c3 + 1 + mm % 12), .int .i64 (1 + c2), .int .i64 5] ∧ Blk (w3.setCell ⟨sb, 1, none⟩ (.slice AM nM cM)) w.heap.size 24 #[.int .i64 0, .slice none 0 0, .string ⟨#[]⟩, .string ⟨#[]⟩, .int .i64 0, .int .i64 0, .int .i64 0, .int .i64 0, .int .i64 0] ∧ Mats (w3.setCell ⟨sb, 1, none⟩ (.slice AM nM cM)) base (.slice AM nM cM) ms ∧ Below w.heap.size w (w3.setCell ⟨sb, 1, none⟩ (.slice AM nM cM))) := by
      have b1 := ((HB.out.1.set 6 (.int .i64 (tick + c3 + 1 + mm % 12))).below (bel1 _ _)).below HM.out.2.1
      have b2 := ((HB.out.2.1.far (p := ⟨sb, 6, none⟩) (by simp; omega) (.int .i64 (tick + c3 + 1 + mm % 12))).below (bel1 _ _)).below HM.out.2.1
      have h1 : Below w.heap.size w w3 := ((HB.out.2.2.setCell (p := ⟨sb, 6, none⟩) (by simp only; omega) _).alloc (by simp [World.setCell]; omega) _).trans (HM.out.2.1.mono (by simp [World.setCell]; omega))
      exact ⟨b1.set 1 _, b2.far (by simp; omega) _, HM.out.1.keep (Fr.setAt (Fr.refl base [24] _) b1.ty (by decide) (by omega) 1 _) (by decide), h1.setCell (p := ⟨sb, 1, none⟩) (by simp only; omega) _⟩
    have HML := Lib.hid HM.out.2.2
    clear hc3 hf3 hz3 HM HB d0 d1 d2 d3 d4 d5 d6 d7 d8 df hsl hsz
    obtain ⟨W8, hW8⟩ : ∃ W8, W8 = w3.setCell ⟨sb, 1, none⟩ (.slice AM nM cM) := ⟨_, rfl⟩
    rw [← hW8] at HW ⊢
    clear hW8
    obtain ⟨d0, d1, d2, d3, d4, d5, d6, d7, d8⟩ := HW.out.1.nine
    have df := HW.out.1.frozen
    obtain ⟨r0, r1, r2, r3, r4, r5, r6, r7, r8⟩ := HW.out.2.1.nine
    have rf := HW.out.2.1.frozen
    have hne1 : ¬ sb = w.heap.size := by omega
    have hne2 : ¬ w.heap.size = sb := by omega
    go_wp2
    · refine bodyPost_ret (v := .agg #[.int .i64 7, .slice AM nM cM, .string x1, .string x2, .int .i64 (1 + c1), .int .i64 (tick + c3), .int .i64 (tick + c3), .int .i64 (1 + c2), .int .i64 5]) (by simp [results, Try.results13, go_sem, r0, r1, r2, r3, r4, r5, r6, r7, r8]) rfl ⟨⟨7, ms, x1, x2, 1 + c1, tick + c3, tick + c3, 1 + c2, 5⟩, AM, nM, cM, rfl, HW.out.2.2.1.keep ((Fr.set (Fr.refl base [24] W8) (t := 24) HW.out.1.ty (by decide) (by simp only; omega) _).trans (fr_set9 (HW.out.2.1.ty.set _ _) (by decide) hbase _ _ _ _ _ _ _ _ _)) (by decide), ⟨⟨good_ok (by have := HML.out.1; simp only; omega) HML.out.2, pers_size _ HX.out.1, pers_size _ HX.out.2, by simp only; omega⟩, HML.out.1, HML.out.2, ⟨by simp only; omega, by simp only; omega⟩, ⟨by simp only; omega, by simp only; omega⟩, ⟨by simp only; omega, by simp only; omega⟩, ⟨by simp only; omega, by simp only; omega⟩⟩, ((HW.out.2.2.2.setCell (by simp only; omega) _).trans (below_set9 _ (Nat.le_refl _) _ _ _ _ _ _ _ _ _))⟩
    · refine bodyPost_ret (v := .agg #[.int .i64 7, .slice AM nM cM, .string x1, .string x2, .int .i64 (1 + c1), .int .i64 (tick + c3), .int .i64 (tick + c3 + 1000 + mm % 2), .int .i64 (1 + c2), .int .i64 5]) (by simp [results, Try.results13, go_sem, r0, r1, r2, r3, r4, r5, r6, r7, r8]) rfl ⟨⟨7, ms, x1, x2, 1 + c1, tick + c3, tick + c3 + 1000 + mm % 2, 1 + c2, 5⟩, AM, nM, cM, rfl, HW.out.2.2.1.keep ((Fr.set (Fr.refl base [24] W8) (t := 24) HW.out.1.ty (by decide) (by simp only; omega) _).trans (fr_set9 (HW.out.2.1.ty.set _ _) (by decide) hbase _ _ _ _ _ _ _ _ _)) (by decide), ⟨⟨good_ok (by have := HML.out.1; simp only; omega) HML.out.2, pers_size _ HX.out.1, pers_size _ HX.out.2, by simp only; omega⟩, HML.out.1, HML.out.2, ⟨by simp only; omega, by simp only; omega⟩, ⟨by simp only; omega, by simp only; omega⟩, ⟨by simp only; omega, by simp only; omega⟩, ⟨by simp only; omega, by simp only; omega⟩⟩, ((HW.out.2.2.2.setCell (by simp only; omega) _).trans (below_set9 _ (Nat.le_refl _) _ _ _ _ _ _ _ _ _))⟩
    · refine bodyPost_ret (v := .agg #[.int .i64 7, .slice AM nM cM, .string x1, .string x2, .int .i64 (1 + c1), .int .i64 (tick - 1), .int .i64 (tick + c3 + 1 + mm % 12), .int .i64 (1 + c2), .int .i64 5]) (by simp [results, Try.results13, go_sem, r0, r1, r2, r3, r4, r5, r6, r7, r8]) rfl ⟨⟨7, ms, x1, x2, 1 + c1, tick - 1, tick + c3 + 1 + mm % 12, 1 + c2, 5⟩, AM, nM, cM, rfl, HW.out.2.2.1.keep ((Fr.set (Fr.refl base [24] W8) (t := 24) HW.out.1.ty (by decide) (by simp only; omega) _).trans (fr_set9 (HW.out.2.1.ty.set _ _) (by decide) hbase _ _ _ _ _ _ _ _ _)) (by decide), ⟨⟨good_ok (by have := HML.out.1; simp only; omega) HML.out.2, pers_size _ HX.out.1, pers_size _ HX.out.2, by simp only; omega⟩, HML.out.1, HML.out.2, ⟨by simp only; omega, by simp only; omega⟩, ⟨by simp only; omega, by simp only; omega⟩, ⟨by simp only; omega, by simp only; omega⟩, ⟨by simp only; omega, by simp only; omega⟩⟩, ((HW.out.2.2.2.setCell (by simp only; omega) _).trans (below_set9 _ (Nat.le_refl _) _ _ _ _ _ _ _ _ _))⟩
    · refine bodyPost_ret (v := .agg #[.int .i64 7, .slice AM nM cM, .string x1, .string x2, .int .i64 (4 * (mm % 2)), .int .i64 (tick + c3), .int .i64 (tick + c3 + 1 + mm % 12), .int .i64 (1 + c2), .int .i64 5]) (by simp [results, Try.results13, go_sem, r0, r1, r2, r3, r4, r5, r6, r7, r8]) rfl ⟨⟨7, ms, x1, x2, 4 * (mm % 2), tick + c3, tick + c3 + 1 + mm % 12, 1 + c2, 5⟩, AM, nM, cM, rfl, HW.out.2.2.1.keep ((Fr.set (Fr.refl base [24] W8) (t := 24) HW.out.1.ty (by decide) (by simp only; omega) _).trans (fr_set9 (HW.out.2.1.ty.set _ _) (by decide) hbase _ _ _ _ _ _ _ _ _)) (by decide), ⟨⟨good_ok (by have := HML.out.1; simp only; omega) HML.out.2, pers_size _ HX.out.1, pers_size _ HX.out.2, by simp only; omega⟩, HML.out.1, HML.out.2, ⟨by simp only; omega, by simp only; omega⟩, ⟨by simp only; omega, by simp only; omega⟩, ⟨by simp only; omega, by simp only; omega⟩, ⟨by simp only; omega, by simp only; omega⟩⟩, ((HW.out.2.2.2.setCell (by simp only; omega) _).trans (below_set9 _ (Nat.le_refl _) _ _ _ _ _ _ _ _ _))⟩
    · refine bodyPost_ret (v := .agg #[.int .i64 7, .slice AM nM cM, .string x1, .string x2, .int .i64 (1 + c1), .int .i64 (tick + c3), .int .i64 (tick + c3 + 1 + mm % 12), .int .i64 (101 * (mm % 2)), .int .i64 5]) (by simp [results, Try.results13, go_sem, r0, r1, r2, r3, r4, r5, r6, r7, r8]) rfl ⟨⟨7, ms, x1, x2, 1 + c1, tick + c3, tick + c3 + 1 + mm % 12, 101 * (mm % 2), 5⟩, AM, nM, cM, rfl, HW.out.2.2.1.keep ((Fr.set (Fr.refl base [24] W8) (t := 24) HW.out.1.ty (by decide) (by simp only; omega) _).trans (fr_set9 (HW.out.2.1.ty.set _ _) (by decide) hbase _ _ _ _ _ _ _ _ _)) (by decide), ⟨⟨good_ok (by have := HML.out.1; simp only; omega) HML.out.2, pers_size _ HX.out.1, pers_size _ HX.out.2, by simp only; omega⟩, HML.out.1, HML.out.2, ⟨by simp only; omega, by simp only; omega⟩, ⟨by simp only; omega, by simp only; omega⟩, ⟨by simp only; omega, by simp only; omega⟩, ⟨by simp only; omega, by simp only; omega⟩⟩, ((HW.out.2.2.2.setCell (by simp only; omega) _).trans (below_set9 _ (Nat.le_refl _) _ _ _ _ _ _ _ _ _))⟩
    · refine bodyPost_ret (v := .agg #[.int .i64 7, .slice AM nM cM, .string ⟨#[]⟩, .string x2, .int .i64 (1 + c1), .int .i64 (tick + c3), .int .i64 (tick + c3 + 1 + mm % 12), .int .i64 (1 + c2), .int .i64 5]) (by simp [results, Try.results13, go_sem, r0, r1, r2, r3, r4, r5, r6, r7, r8]) rfl ⟨⟨7, ms, ⟨#[]⟩, x2, 1 + c1, tick + c3, tick + c3 + 1 + mm % 12, 1 + c2, 5⟩, AM, nM, cM, rfl, HW.out.2.2.1.keep ((Fr.set (Fr.refl base [24] W8) (t := 24) HW.out.1.ty (by decide) (by simp only; omega) _).trans (fr_set9 (HW.out.2.1.ty.set _ _) (by decide) hbase _ _ _ _ _ _ _ _ _)) (by decide), ⟨⟨good_ok (by have := HML.out.1; simp only; omega) HML.out.2, by show (⟨#[]⟩ : ByteArray).size ≤ maxLen; unfold maxLen; decide, pers_size _ HX.out.2, by simp only; omega⟩, HML.out.1, HML.out.2, ⟨by simp only; omega, by simp only; omega⟩, ⟨by simp only; omega, by simp only; omega⟩, ⟨by simp only; omega, by simp only; omega⟩, ⟨by simp only; omega, by simp only; omega⟩⟩, ((HW.out.2.2.2.setCell (by simp only; omega) _).trans (below_set9 _ (Nat.le_refl _) _ _ _ _ _ _ _ _ _))⟩
    · refine bodyPost_ret (v := .agg #[.int .i64 7, .slice AM nM cM, .string x1, .string x2, .int .i64 (1 + c1), .int .i64 (tick + c3), .int .i64 (tick + c3 + 1 + mm % 12), .int .i64 (1 + c2), .int .i64 5]) (by simp [results, Try.results13, go_sem, r0, r1, r2, r3, r4, r5, r6, r7, r8]) rfl ⟨⟨7, ms, x1, x2, 1 + c1, tick + c3, tick + c3 + 1 + mm % 12, 1 + c2, 5⟩, AM, nM, cM, rfl, HW.out.2.2.1.keep (fr_set9 (T := [24]) HW.out.2.1.ty (by decide) hbase _ _ _ _ _ _ _ _ _) (by decide), ⟨⟨good_ok (by have := HML.out.1; simp only; omega) HML.out.2, pers_size _ HX.out.1, pers_size _ HX.out.2, by simp only; omega⟩, HML.out.1, HML.out.2, ⟨by simp only; omega, by simp only; omega⟩, ⟨by simp only; omega, by simp only; omega⟩, ⟨by simp only; omega, by simp only; omega⟩, ⟨by simp only; omega, by simp only; omega⟩⟩, (HW.out.2.2.2.trans (below_set9 _ (Nat.le_refl _) _ _ _ _ _ _ _ _ _))⟩
end Go.Proofs.Ytoafpajibeejlaa
