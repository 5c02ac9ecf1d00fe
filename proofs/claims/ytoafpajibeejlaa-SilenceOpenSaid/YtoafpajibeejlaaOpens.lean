/- opens: Open of a new book agrees with the reference. -/
import Derived.Test.YtoafpajibeejlaaLimit
import Derived.Test.YtoafpajibeejlaaGen2
import Derived.Deep.RegionHeld3
import Derived.Deep.DeepCutAuto
set_option linter.unusedVariables false
set_option linter.unusedSimpArgs false
namespace Go.Proofs.Ytoafpajibeejlaa
open Go.RowKit

theorem Seq.raise {w : World} {base base' t size n : Nat} {v : Value} {xs : List Value} (h : Seq w base t size v n xs) (hb : base ≤ base') : Seq w base' t size v n xs := by
  obtain ⟨h1, A, c, hv, hn, hc, h2⟩ := h
  refine ⟨h1, A, c, hv, hn, hc, fun h0 => ?_⟩
  obtain ⟨b, off, hA, hf, hx⟩ := h2 h0
  exact ⟨b, off, hA, ⟨hf.1, hf.2.imp (fun h => by omega) id⟩, hx⟩
theorem open_len (s : Sil) (tick : Int) : (openM [] s tick).2.length ≤ 1 := by
  unfold openM
  split
  · simp
  · split <;> simp

set_option maxRecDepth 100000 in
set_option maxHeartbeats 4000000 in
theorem opens_any (s : Sil) (A : Option Addr) (n c : Nat) (tick : Int) (w : World) (hm : Mats w w.heap.size (.slice A n c) s.ms) (hs : SilFit s) :
    Calls Try.prog 14 #[.agg #[.int .i64 s.id, .slice A n c, .string s.ow, .string s.se, .int .i64 s.cl, .int .i64 s.fr, .int .i64 s.un, .int .i64 s.cp, .int .i64 s.hd], .int .i64 tick] w fun e w' => e = .returned (.bool true) ∧ Below w.heap.size w w' := by
  obtain ⟨⟨⟨r1, r2⟩, sl2⟩, hM⟩ : ∃ x, openM [] s tick = x := ⟨_, rfl⟩
  have hlen2 : sl2.length ≤ 1 := by have := open_len s tick; rw [hM] at this; exact this
  have HMM := Lib.hid hM
  have HSF := Lib.hid hs
  have HW : Hid (Blk (((w.alloc (.cells #[.int .i64 s.id, .slice A n c, .string s.ow, .string s.se, .int .i64 s.cl, .int .i64 s.fr, .int .i64 s.un, .int .i64 s.cp, .int .i64 s.hd] 24)).alloc (.cells #[.slice none 0 0] 77)).alloc (.cells #[.slice none 0 0] 60)) w.heap.size 24 #[.int .i64 s.id, .slice A n c, .string s.ow, .string s.se, .int .i64 s.cl, .int .i64 s.fr, .int .i64 s.un, .int .i64 s.cp, .int .i64 s.hd] ∧ Two (((w.alloc (.cells #[.int .i64 s.id, .slice A n c, .string s.ow, .string s.se, .int .i64 s.cl, .int .i64 s.fr, .int .i64 s.un, .int .i64 s.cp, .int .i64 s.hd] 24)).alloc (.cells #[.slice none 0 0] 77)).alloc (.cells #[.slice none 0 0] 60)) (w.heap.size + 1) (w.heap.size + 1) (w.heap.size + 1 + 1) [] ∧ Mats (((w.alloc (.cells #[.int .i64 s.id, .slice A n c, .string s.ow, .string s.se, .int .i64 s.cl, .int .i64 s.fr, .int .i64 s.un, .int .i64 s.cp, .int .i64 s.hd] 24)).alloc (.cells #[.slice none 0 0] 77)).alloc (.cells #[.slice none 0 0] 60)) (w.heap.size + 1) (.slice A n c) s.ms ∧ Below w.heap.size w (((w.alloc (.cells #[.int .i64 s.id, .slice A n c, .string s.ow, .string s.se, .int .i64 s.cl, .int .i64 s.fr, .int .i64 s.un, .int .i64 s.cp, .int .i64 s.hd] 24)).alloc (.cells #[.slice none 0 0] 77)).alloc (.cells #[.slice none 0 0] 60))) := by
    refine ⟨((Blk.new _ _ _).below (bel1 _ _)).below (bel1 _ _), ?_, ((Seq.raise hm (Nat.le_succ _)).below (bel1 _ _) |>.below (bel1 _ _) |>.below (bel1 _ _)), ((bel1 w _).alloc (by simp) _).alloc (by simp; omega) _⟩
    have := new_two (w.alloc (.cells #[.int .i64 s.id, .slice A n c, .string s.ow, .string s.se, .int .i64 s.cl, .int .i64 s.fr, .int .i64 s.un, .int .i64 s.cp, .int .i64 s.hd] 24))
    simpa using this
  clear hM hs hm
  go_enter Try.func14, Try.ntmps14
  go_upto_region 3 with (go_at_call 19; refine (new_any _).mono ?_; rintro e w1 ⟨rfl, rfl⟩)
  generalize (((w.alloc (.cells #[.int .i64 s.id, .slice A n c, .string s.ow, .string s.se, .int .i64 s.cl, .int .i64 s.fr, .int .i64 s.un, .int .i64 s.cp, .int .i64 s.hd] 24)).alloc (.cells #[.slice none 0 0] 77)).alloc (.cells #[.slice none 0 0] 60)) = W at HW ⊢
  obtain ⟨a0, a1, a2, a3, a4, a5, a6, a7, a8⟩ := HW.out.1.nine
  obtain ⟨l0, l0', hb0, hr0, m0, m0'⟩ := HW.out.2.1
  have HB0 := Lib.hid (And.intro hb0 (And.intro hr0 (And.intro m0 m0')))
  have hn0 : l0.length ≤ 10000 := by rw [mapLen m0]; simp
  have hn0' : l0'.length ≤ 10000 := by rw [mapLen m0']; simp
  have hzW : w.heap.size + 1 ≤ W.heap.size := HW.out.1.ty.lt
  clear hb0 hr0 m0 m0'
  go_wp2_with (first
    | (go_at_call 20
       refine (bopen_eq (w.heap.size + 1) (w.heap.size + 1) l0 s _ _ _ tick _ [] r1 r2 sl2 (by exact HB0.out.1) hzW (by exact HW.out.2.2.1) HSF.out hn0 HB0.out.2.2.1 HMM.out).mono ?_
       rintro e w1 hr
       have hr0 := hr.1
       subst hr0
       have R1 := Lib.hid hr
       have HX1 : Hid (RBookAt w1 (w.heap.size + 1) (w.heap.size + 1 + 1) l0' ∧ Mats w1 (w.heap.size + 1) (.slice A n c) s.ms ∧ Blk w1 w.heap.size 24 #[.int .i64 s.id, .slice A n c, .string s.ow, .string s.se, .int .i64 s.cl, .int .i64 s.fr, .int .i64 s.un, .int .i64 s.cp, .int .i64 s.hd]) := by
         obtain ⟨_, l1, _, _, f1⟩ := R1.out
         exact ⟨HB0.out.2.1.keep f1 (by decide) (by decide) (by decide), HW.out.2.2.1.keep f1 (by decide), HW.out.1.keep f1 (by decide)⟩
       have hz1 : w.heap.size + 1 ≤ w1.heap.size := HX1.out.2.2.ty.lt
       obtain ⟨x0, x1, x2, x3, x4, x5, x6, x7, x8⟩ := HX1.out.2.2.nine
       clear hr a0 a1 a2 a3 a4 a5 a6 a7 a8)
    | (go_at_call 33
       refine (ropen_eq (w.heap.size + 1 + 1) (w.heap.size + 1) l0' s _ _ _ tick _ [] r1 r2 sl2 (by exact HX1.out.1) hz1 (by exact HX1.out.2.1) HSF.out hn0' HB0.out.2.2.2 HMM.out).mono ?_
       rintro e w2 hr
       have hr0 := hr.1
       subst hr0
       have R2 := Lib.hid hr
       clear hr))
  have HT := Lib.hid (two_next (sl := []) (Below.refl _ W) HB0.out.2.1 HB0.out.2.2.2 R1.out R2.out)
  obtain ⟨l5, l5', hb5, hr5, m5, m5'⟩ := HT.out.1
  obtain ⟨A5, c5, hblk5, hown5, hss5⟩ := hr5.form
  have g5 := hblk5.one
  have hp5 := hblk5.ty.lt
  have HX5 : Hid (BookAt w2 (w.heap.size + 1) (w.heap.size + 1) l5 ∧ Sils w2 (w.heap.size + 1) 24 (.slice A5 l5'.length c5) l5' ∧ l5.map Prod.fst = l5'.map Prod.fst ∧ Fr (w.heap.size + 1) TT W w2) := ⟨hb5, hss5, by rw [m5, m5'], HT.out.2⟩
  have hl5 : l5.length ≤ 10000 := by rw [mapLen m5]; omega
  have hz5 : w.heap.size + 1 ≤ w2.heap.size := by omega
  clear hb5 hr5 m5 m5' hblk5 hown5 hss5 x0 x1 x2 x3 x4 x5 x6 x7 x8 HT
  go_region_held3 (fun w' => w'.cell? ⟨w.heap.size + 1 + 1, 0, none⟩ = some (.slice A5 l5'.length c5)) (first | go_keep | with_reducible exact HK6.out | with_reducible exact HK7.out)
    (first
    | (go_at_call 21
       refine (all_any (w.heap.size + 1) (w.heap.size + 1) l5 _ (by exact HX5.out.1) (by omega) (by exact hz5)).mono ?_
       rintro e w6 ⟨A6, n6, c6, l6, rfl, hm6, ho6, hk6, hb6⟩
       obtain ⟨A6', c6', hv6⟩ := own_form ho6
       have hn6 : n6 = l6.length := by injection hv6
       subst hn6
       have HK6 : Hid (w6.cell? ⟨w.heap.size + 1 + 1, 0, none⟩ = some (.slice A5 l5'.length c5)) := bat hb6 (by exact hp5) (by exact g5)
       have HX6 : Hid (Sils w6 (w.heap.size + 1) 24 (.slice A6 l6.length c6) l6 ∧ Sils w6 (w.heap.size + 1) 24 (.slice A5 l5'.length c5) l5' ∧ l6.map Prod.fst = l5'.map Prod.fst ∧ Fr (w.heap.size + 1) TT W w6) := ⟨⟨Seq.of_own ho6, hk6⟩, Sils.below (w := w2.drew) HX5.out.2.1 hb6, by rw [hm6, HX5.out.2.2.1], HX5.out.2.2.2.drew.then_ hb6⟩
       have hp6 : w.heap.size + 1 + 1 < w6.heap.size := Nat.lt_of_lt_of_le hp5 hb6.size
       clear hm6 ho6 hk6 hb6 hv6)
    | (go_at_call 27
       refine (same_any _ _ _ _ _ _ (w.heap.size + 1) l6 l5' _ (by exact HX6.out.1) (by exact HX6.out.2.1) HX6.out.2.2.1).mono ?_
       rintro e w7 ⟨rfl, hb7⟩
       have HK7 : Hid (w7.cell? ⟨w.heap.size + 1 + 1, 0, none⟩ = some (.slice A5 l5'.length c5)) := bat hb7 hp6 HK6.out
       have HX7 : Hid (Fr (w.heap.size + 1) TT W w7) := HX6.out.2.2.2.then_ hb7
       clear hb7))
  go_wp2
  go_ret
  exact ⟨rfl, HW.out.2.2.2.trans ((fr_below HX7.out hzW).mono (by omega))⟩
end Go.Proofs.Ytoafpajibeejlaa
