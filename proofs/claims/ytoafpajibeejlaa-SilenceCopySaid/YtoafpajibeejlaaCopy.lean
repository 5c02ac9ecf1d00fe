/- Copy of a book. -/
import Derived.Test.YtoafpajibeejlaaLimit
import Derived.Test.YtoafpajibeejlaaGen2
import Derived.Deep.RegionLaw
import Derived.Deep.DeepCutAuto
set_option linter.unusedVariables false
set_option linter.unusedSimpArgs false
namespace Go.Proofs.Ytoafpajibeejlaa
open Go.RowKit

theorem Seq.raise' {w : World} {base base' t size n : Nat} {v : Value} {xs : List Value} (h : Seq w base t size v n xs) (hb : base ≤ base') : Seq w base' t size v n xs := by
  obtain ⟨h1, A, c, hv, hn, hc, h2⟩ := h
  refine ⟨h1, A, c, hv, hn, hc, fun h0 => ?_⟩
  obtain ⟨b, off, hA, hf, hx⟩ := h2 h0
  exact ⟨b, off, hA, ⟨hf.1, hf.2.imp (fun h => by omega) id⟩, hx⟩
/-- a new book with the same silences is returned -/
def RetCopy (w : World) (base : Nat) (sl : List Sil) (e : Ending) (w' : World) : Prop := e = .returned (.pointer (some ⟨w.heap.size, 0, none⟩)) ∧ (∃ l, BookAt w' w.heap.size w.heap.size l ∧ SilsOk w' base l ∧ l.map Prod.fst = sl) ∧ Below w.heap.size w w'
theorem Fr.lower {B base : Nat} {T : List TypeId} {w w' : World} (f : Fr B T w w') (h : base ≤ B) : Fr base T w w' := ⟨f.os, f.tape, f.output, f.size, fun k hk hc => f.block k hk (hc.imp (fun h => by omega) id)⟩
def CpRel (w : World) (base n : Nat) (av : Value) (la : List (Sil × Value)) (i : Value) (wr : World) : Prop :=
  ∃ (k : Nat) (l' : List (Sil × Value)), k ≤ n ∧ i = .int .i64 k ∧ l'.length = k ∧ l'.map Prod.fst = (la.map Prod.fst).take k ∧ BookAt wr w.heap.size w.heap.size l' ∧ SilsOk wr base l' ∧ SilsOk wr base la ∧ Sils wr w.heap.size 24 av la ∧ Below w.heap.size w wr

set_option maxRecDepth 100000 in
set_option maxHeartbeats 4000000 in
theorem copy_any (p base : Nat) (l : List (Sil × Value)) (w : World) (h : BookAt w base p l) (hbase : base ≤ w.heap.size) (hl : l.length ≤ 10000) :
    Calls Try.prog 30 #[.pointer (some ⟨p, 0, none⟩)] w (RetCopy w base (l.map Prod.fst)) := by
  have HB := Lib.hid h
  have HN0 := Lib.hid (new_book w w.heap.size (Nat.le_refl _))
  clear h
  go_enter Try.func30, Try.ntmps30
  go_wp2_with (first
    | (go_at_call 19; refine (new_any _).mono ?_; rintro e w1 ⟨rfl, rfl⟩)
    | (go_at_call 21
       refine (all_any p base l _ (by exact HB.out.below (bel1 _ _)) (by omega) (by simp; omega)).mono ?_
       rintro e w6 ⟨A6, n6, c6, l6, rfl, hm6, ho6, hk6, hb6⟩
       obtain ⟨A6', c6', hv6⟩ := own_form ho6
       have hn6 : n6 = l6.length := by injection hv6
       subst hn6
       have HS6 : Hid (BookAt w6 w.heap.size w.heap.size [] ∧ SilsOk w6 base l6 ∧ Sils w6 w.heap.size 24 (.slice A6 l6.length c6) l6 ∧ Below w.heap.size w w6) := ⟨HN0.out.below hb6, hk6, ⟨Seq.of_own ho6, fun x hx => ⟨Seq.raise' (hk6 x hx).1 hbase, (hk6 x hx).2⟩⟩, (bel1 _ _).trans (hb6.mono (by simp))⟩
       have HL6 := Lib.hid hm6
       have hl6 : l6.length ≤ 10000 := by rw [mapLen hm6, List.length_map]; exact hl
       clear hm6 ho6 hk6 hb6 hv6))
  go_loopw [10] (fun i wr => CpRel w base l6.length (.slice A6 l6.length c6) l6 i wr) (fun i _ => l6.length - (intOf i).toNat)
  case atStart => exact ⟨0, [], by omega, rfl, rfl, rfl, HS6.out.1, fun x hx => by simp at hx, HS6.out.2.1, HS6.out.2.2.1, HS6.out.2.2.2⟩
  case round =>
    obtain ⟨k, l', hk, rfl, hlen, hmap, hbk, hkb, hka, hsl, hbw⟩ := hrel
    have hsz := hbw.size
    by_cases hlt : k < l6.length
    · obtain ⟨x, hx⟩ : ∃ x, l6[k]? = some x := ⟨l6[k], List.getElem?_eq_getElem _⟩
      obtain ⟨b, off, rfl, hb, ⟨c0, c1, c2, c3, c4, c5, c6', c7, c8⟩, hmx, hmo⟩ := hsl.at_ k x hx
      obtain ⟨s, mv⟩ := x
      obtain ⟨A1, cp1, hmv⟩ := hmx.form
      simp only at hmv
      subst hmv
      obtain ⟨n1, hn1⟩ : ∃ q, s.ms.length = q := ⟨_, rfl⟩
      obtain ⟨A0, c0', hbc, hbf, hp, hown, hss⟩ := hbk.form
      have HBK0 : Hid (Blk wr w.heap.size 77 #[.slice A0 l'.length c0']) := by
        obtain ⟨_, sv, hh, _⟩ := hbk
        have : sv = .slice A0 l'.length c0' := by simpa [World.cell?, hh] using hbc
        rw [this] at hh; exact hh
      have HX := Lib.hid hx
      have HKB := Lib.hid (And.intro hkb (And.intro hka (hka _ (List.mem_of_getElem? hx))))
      have HR := Lib.hid (And.intro hlen (And.intro hmap (And.intro hbk (And.intro hsl hbw))))
      have HOWN := Lib.hid hown
      have HMX := Lib.hid (And.intro hmx hmo)
      have hl'k : l'.length ≤ 10000 := by omega
      clear hx hlen hmap hbk hsl hbw hown hss hmx hmo hkb hka
      obtain ⟨id, ms, ow, se, cl, fr, un, cp, hd⟩ := s
      simp only at hn1 HX HMX HKB c0 c1 c2 c3 c4 c5 c6' c7 c8
      rw [hn1] at HX HMX HKB c1
      clear hn1
      go_upto_region 5 with fail
      have HW : Hid (Below wr.heap.size wr (wr.alloc (.cells #[.int .i64 id, .slice A1 n1 cp1, .string ow, .string se, .int .i64 cl, .int .i64 fr, .int .i64 un, .int .i64 cp, .int .i64 hd] 24)) ∧ Blk (wr.alloc (.cells #[.int .i64 id, .slice A1 n1 cp1, .string ow, .string se, .int .i64 cl, .int .i64 fr, .int .i64 un, .int .i64 cp, .int .i64 hd] 24)) wr.heap.size 24 #[.int .i64 id, .slice A1 n1 cp1, .string ow, .string se, .int .i64 cl, .int .i64 fr, .int .i64 un, .int .i64 cp, .int .i64 hd]) := ⟨bel1 _ _, Blk.new _ _ _⟩
      generalize wr.alloc (.cells #[.int .i64 id, .slice A1 n1 cp1, .string ow, .string se, .int .i64 cl, .int .i64 fr, .int .i64 un, .int .i64 cp, .int .i64 hd] 24) = W8 at HW ⊢
      clear c0 c1 c2 c3 c4 c5 c6' c7 c8
      obtain ⟨d0, d1, d2, d3, d4, d5, d6, d7, d8⟩ := HW.out.2.nine
      have dp := bat HW.out.1 hp hbc
      have dpf := (HW.out.1.frozen (p := ⟨w.heap.size, 0, none⟩) hp).trans hbf
      have hz8 : wr.heap.size < W8.heap.size := HW.out.2.ty.lt
      have HOW : Hid (W8.ownsRow w.heap.size 82 9 (.slice A0 l'.length c0') l'.length (rowCells l')) := own_below HOWN.out HW.out.1
      have HBK : Hid (Blk W8 w.heap.size 77 #[.slice A0 l'.length c0']) := Blk.below HBK0.out HW.out.1
      obtain ⟨i0, hi, hz0, hz1, hz2⟩ := info_parts entInfo
      have hp8 : w.heap.size < W8.heap.size := HBK.out.ty.lt
      have hne1 := World.new_ne W8 ⟨w.heap.size, 0, none⟩ dp
      have hne2 := World.new_ne W8 ⟨wr.heap.size, 0, none⟩ d0
      have HI := Lib.hid (And.intro hi (And.intro hz0 (And.intro hz1 hz2)))
      clear hi hz0 hz1 hz2
      go_region_law (first | (refine step_append_lies _ rfl _ _ 75 rfl w.heap.size 82 i0 _ 9 104 Try.underlying75 HI.out.1 HI.out.2.1 HI.out.2.2.1 HI.out.2.2.2 rfl (by decide) _ l'.length (rowCells l') rfl (by exact (HOW.out).alloc _) ⟨W8.heap.size, 0, none⟩ 1 1 (silCells (⟨id, ms, ow, se, cl, fr, un, cp, hd⟩, .slice A1 n1 cp1)) rfl rfl (cells9 _ _ _ _ _ _ _ _ _ _ _) (silCells_one _ _ _ _) (by decide) (by simp only [maxLen]; omega) (by omega) (by simp; omega) _ rfl ?_; intro g cap w9 hown9 hg9 hat9 hlt9; have HF9 : Hid (Fr w.heap.size [82] W8 w9) := grow_fr HOW.out (by first | exact bel1 _ _ | exact (bel1 _ _).drew) hg9; have HB9 : Hid (Blk w9 w.heap.size 77 #[.slice A0 l'.length c0']) := HBK.out.keep HF9.out (by decide); have e9 := HB9.out.one; have ef9 := HB9.out.frozen))
      all_goals
        have HFIN := Lib.hid (open_end (s := ⟨id, ms, ow, se, cl, fr, un, cp, hd⟩) HR.out.2.2.1 HW.out.1 (HMX.out.1.below HW.out.1) HMX.out.2 HF9.out HB9.out hown9)
        clear hown9 hg9 hat9 hlt9 e9 ef9 hne1 hne2 dp dpf d0 d1 d2 d3 d4 d5 d6 d7 d8
        go_wp2
        go_roundw
        case rel => exact ⟨k + 1, _, by omega, by go_num, by simp [HR.out.1], take_next HX.out HR.out.2.1, HFIN.out.1, fun x hx => (List.mem_append.1 hx).elim (fun h => (HKB.out.1.keep (HFIN.out.2.lower hbase) (by decide)) x h) (fun h => by simp at h; subst h; exact ⟨HKB.out.2.2.1.keep (HFIN.out.2.lower hbase) (by decide), HKB.out.2.2.2⟩), HKB.out.2.1.keep (HFIN.out.2.lower hbase) (by decide), HR.out.2.2.2.1.keep HFIN.out.2 (by decide) (by decide), HR.out.2.2.2.2.trans (fr_below HFIN.out.2 hsz)⟩
        case measure => simp [intOf]; omega
    · have HE : Hid (RetCopy w base (l.map Prod.fst) (.returned (.pointer (some ⟨w.heap.size, 0, none⟩))) wr) := ⟨rfl, ⟨l', hbk, hkb, by rw [hmap, HL6.out, List.take_of_length_le (by rw [← HL6.out, List.length_map]; omega)]⟩, hbw⟩
      clear hmap hbk hsl hbw hkb hka
      go_wp2
      go_ret
      exact HE.out
end Go.Proofs.Ytoafpajibeejlaa
