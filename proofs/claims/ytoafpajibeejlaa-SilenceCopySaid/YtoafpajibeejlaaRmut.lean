/- Extend, End of the reference's book. -/
import Derived.Test.YtoafpajibeejlaaRopen2
import Derived.IntWalk
import Derived.RegionTactic
import Derived.ChangeAlike
set_option linter.unusedVariables false
set_option linter.unusedSimpArgs false
namespace Go.Proofs.Ytoafpajibeejlaa
open Go.RowKit

theorem RBookAt.row {w : World} {base p : Nat} {l : List (Sil × Value)} (h : RBookAt w base p l) : ∃ g cap, (0 < l.length → Blk w p 60 #[.slice (some ⟨g, 0, none⟩) l.length cap] ∧ base ≤ g ∧ w.ownsRow base 24 9 (.slice (some ⟨g, 0, none⟩) l.length cap) l.length (rowCells l)) := by
  obtain ⟨_, sv, hh, hown, hok⟩ := h
  rcases Nat.eq_zero_or_pos l.length with h0 | h0
  · exact ⟨0, 0, fun h => by omega⟩
  · obtain ⟨g, cap, rfl, hg, _⟩ := hown.form h0
    exact ⟨g, cap, fun _ => ⟨hh, hg, hown⟩⟩
theorem rbook_set {w w1 : World} {base p g cap k j : Nat} {l : List (Sil × Value)} {s s' : Sil} {mv u : Value} (h : RBookAt w base p l) (hb : Below w.heap.size w w1) (hblk : Blk w p 60 #[.slice (some ⟨g, 0, none⟩) l.length cap]) (hg : base ≤ g)
    (hown : w.ownsRow base 24 9 (.slice (some ⟨g, 0, none⟩) l.length cap) l.length (rowCells l)) (hk : l[k]? = some (s, mv)) (hms : s'.ms = s.ms) (hr : (rowCells l).set (k * 9 + j) u = rowCells (l.set k (s', mv))) :
    RBookAt (w1.setCell ⟨g, k * 9 + j, none⟩ u) base p (l.set k (s', mv)) ∧ Fr base [60, 24] w (w1.setCell ⟨g, k * 9 + j, none⟩ u) := by
  have hown1 := own_below hown hb
  have f : Fr base [24] w1 (w1.setCell ⟨g, k * 9 + j, none⟩ u) := Fr.setAt (Fr.refl _ _ _) (own_ty hown1 g rfl).2 (by decide) hg _ _
  refine ⟨⟨h.1, _, (hblk.below hb).keep f (by decide), ?_, ?_⟩, (Fr.of_below hb).trans (f.more (by simp))⟩
  · have := (hown1.stored (k * 9 + j) u).1
    rw [hr] at this
    rw [List.length_set]
    exact this
  · obtain ⟨_, _, _, _, hok⟩ := h
    intro x hx
    rcases List.mem_or_eq_of_mem_set hx with hx | hx
    · exact (hok.below hb).keep f (by decide) x hx
    · subst hx
      have := (hok.below hb).keep f (by decide) (s, mv) (List.mem_of_getElem? hk)
      simp only [hms] at this ⊢
      exact this
theorem findE_in {l : List (Sil × Value)} {k : Nat} {s : Sil} {mv : Value} {pe : ByteArray} (hk : l[k]? = some (s, mv)) : findE (l.map Prod.fst) ((k : Int) + 1) pe = if mayB s.ow s.se pe then 0 else 16 := by
  have hkl : k < l.length := (List.getElem?_eq_some_iff.1 hk).1
  unfold findE
  rw [if_neg (by simp; omega), show ((k : Int) + 1 - 1).toNat = k by omega]
  simp [hk]
/-- entry k of the reference's book: its cells -/
theorem rrow_at {w : World} {base g cap k : Nat} {l : List (Sil × Value)} {s : Sil} {mv : Value} (hown : w.ownsRow base 24 9 (.slice (some ⟨g, 0, none⟩) l.length cap) l.length (rowCells l)) (hk : l[k]? = some (s, mv)) : At9 w g (k * 9) s mv := by
  have := row_at (w := w) (b := g) (off := 0) hk (fun j u hu => by
    have hj : j < l.length * 9 := by rw [← rowCells_len]; exact (List.getElem?_eq_some_iff.1 hu).1
    rw [Nat.zero_add, hown.cellAt j hj, hu])
  simpa using this


set_option maxHeartbeats 1000000 in
theorem rextend_out (p base : Nat) (l : List (Sil × Value)) (id tick til : Int) (pe : ByteArray) (w : World) (h : RBookAt w base p l) (hl : l.length ≤ 10000) (h1 : -9223372036854775808 ≤ id) (ho : id < 1 ∨ (l.length : Int) < id) :
    Calls Try.prog 45 #[.pointer (some ⟨p, 0, none⟩), .int .i64 id, .string pe, .int .i64 tick, .int .i64 til] w (RRetBook w base p (.int .i64 (extendM (l.map Prod.fst) id pe tick til).1) (extendM (l.map Prod.fst) id pe tick til).2) := by
  have E0 : findE (l.map Prod.fst) id pe = 9 := if_pos (by simpa using ho)
  have E : Hid (extendM (l.map Prod.fst) id pe tick til = (9, l.map Prod.fst)) := by unfold extendM; rw [E0]; rfl
  obtain ⟨A0, c0, hblk, hown, hss⟩ := h.form
  have hbc := hblk.one
  have HB := Lib.hid h
  clear h hblk hown hss E0
  rcases ho with ho | ho
  · go_enter Try.func45, Try.ntmps45
    go_wp2
    go_ret
    rw [E.out]
    exact ⟨rfl, l, HB.out, rfl, Fr.refl _ _ _⟩
  · by_cases ho2 : id < 1
    · go_enter Try.func45, Try.ntmps45
      go_wp2
      go_ret
      rw [E.out]
      exact ⟨rfl, l, HB.out, rfl, Fr.refl _ _ _⟩
    · go_enter Try.func45, Try.ntmps45
      go_wp2
      go_ret
      rw [E.out]
      exact ⟨rfl, l, HB.out, rfl, Fr.refl _ _ _⟩


set_option maxHeartbeats 2000000 in
theorem rextend_in (p base : Nat) (l : List (Sil × Value)) (k : Nat) (s : Sil) (mv : Value) (tick til : Int) (pe : ByteArray) (w : World) (h : RBookAt w base p l) (hl : l.length ≤ 10000) (hk : l[k]? = some (s, mv)) (ht : 0 ≤ tick) (ht2 : tick ≤ 4611686018427387904) (hu1 : -4611686018427387904 ≤ til) (hu2 : til ≤ 4611686018427387904) :
    Calls Try.prog 45 #[.pointer (some ⟨p, 0, none⟩), .int .i64 ((k : Int) + 1), .string pe, .int .i64 tick, .int .i64 til] w (RRetBook w base p (.int .i64 (extendM (l.map Prod.fst) ((k : Int) + 1) pe tick til).1) (extendM (l.map Prod.fst) ((k : Int) + 1) pe tick til).2) := by
  have hkl : k < l.length := (List.getElem?_eq_some_iff.1 hk).1
  have E0 : extendM (l.map Prod.fst) ((k : Int) + 1) pe tick til = if mayB s.ow s.se pe = false then (16, l.map Prod.fst) else if livesB s.fr s.un tick = false then (20, l.map Prod.fst) else if til < s.un ∨ 1000 < til - tick ∨ 1048576 < til then (5, l.map Prod.fst) else (0, (l.map Prod.fst).set k { s with un := til }) := by
    unfold extendM
    rw [findE_in hk, show ((k : Int) + 1 - 1).toNat = k by omega]
    cases hm : mayB s.ow s.se pe <;> simp [hk]
  have E := Lib.hid E0
  obtain ⟨g, cap, hrow⟩ := h.row
  obtain ⟨hblk, hg, hown⟩ := hrow (by omega)
  obtain ⟨c0, c1, c2, c3, c4, c5, c6, c7, c8⟩ := rrow_at hown hk
  have hfz := hown.frozenAt
  have hgl : g < w.heap.size := (own_ty hown g rfl).2.lt
  have hbc := hblk.one
  have hp := hblk.ty.lt
  obtain ⟨_, _, _, _, hok⟩ := id h
  have hmx := hok (s, mv) (List.mem_of_getElem? hk)
  obtain ⟨A1, cp1, hmv⟩ := hmx.1.form
  simp only at hmv
  subst hmv
  have HB := Lib.hid h
  have HK := Lib.hid hk
  have HOWN := Lib.hid (And.intro hblk (And.intro hg hown))
  clear h hrow hblk hg hown hk hmx E0 hok
  obtain ⟨i, ms, ow, se, cl, fr, un, cp, hd⟩ := s
  simp only at c0 c1 c2 c3 c4 c5 c6 c7 c8
  by_cases hm : mayB ow se pe = true
  · by_cases hlv : livesB fr un tick = true
    · by_cases hr : til < un ∨ 1000 < til - tick ∨ 1048576 < til
      · have E1 : Hid (extendM (l.map Prod.fst) ((k : Int) + 1) pe tick til = (5, l.map Prod.fst)) := by rw [Hid, E.out, if_neg (by simp [hm]), if_neg (by simp [hlv]), if_pos hr]
        go_enter Try.func45, Try.ntmps45
        go_wp2_with (first | (go_at_call 61; refine (rmay_any _ _ _ _ _ _ _ _ _ _ _ _ _).mono ?_; rintro e w2 ⟨rfl, hb2⟩; have HB2 : Hid (Below w.heap.size w w2 ∧ Blk w2 w.heap.size 24 #[.int .i64 i, .slice A1 ms.length cp1, .string ow, .string se, .int .i64 cl, .int .i64 fr, .int .i64 un, .int .i64 cp, .int .i64 hd]) := ⟨(bel1 _ _).trans (hb2.mono (by simp)), (Blk.new _ _ _).below hb2⟩; obtain ⟨q0, q1, q2, q3, q4, q5, q6, q7, q8⟩ := HB2.out.2.nine; clear hb2) | (go_at_call 37; refine (rlives_any _ _ _ _ _ _ _ _ _ _ _ _ _).mono ?_; rintro e w3 ⟨rfl, hb3⟩; have HB3 : Hid (Below w.heap.size w w3) := HB2.out.1.trans (hb3.mono HB2.out.1.size); have r5 := bat hb3 HB2.out.2.ty.lt q5; have r6 := bat hb3 HB2.out.2.ty.lt q6; have rp := bat HB3.out hp hbc; have z6 := bat HB3.out hgl c6; have zf : ∀ o, w3.frozen? ⟨g, o, none⟩ = false := fun o => (HB3.out.frozen (p := ⟨g, o, none⟩) hgl).trans (hfz o); clear hb3))
        all_goals
          go_ret
          rw [E1.out]
          exact ⟨rfl, l, HB.out.below HB3.out, rfl, Fr.of_below HB3.out⟩
      · have E1 : Hid (extendM (l.map Prod.fst) ((k : Int) + 1) pe tick til = (0, (l.map Prod.fst).set k ⟨i, ms, ow, se, cl, fr, til, cp, hd⟩)) := by rw [Hid, E.out, if_neg (by simp [hm]), if_neg (by simp [hlv]), if_neg hr]
        have hr1 : un ≤ til := by omega
        have hr2 : til - tick ≤ 1000 := by omega
        have hr3 : til ≤ 1048576 := by omega
        clear hr
        go_enter Try.func45, Try.ntmps45
        go_wp2_with (first | (go_at_call 61; refine (rmay_any _ _ _ _ _ _ _ _ _ _ _ _ _).mono ?_; rintro e w2 ⟨rfl, hb2⟩; have HB2 : Hid (Below w.heap.size w w2 ∧ Blk w2 w.heap.size 24 #[.int .i64 i, .slice A1 ms.length cp1, .string ow, .string se, .int .i64 cl, .int .i64 fr, .int .i64 un, .int .i64 cp, .int .i64 hd]) := ⟨(bel1 _ _).trans (hb2.mono (by simp)), (Blk.new _ _ _).below hb2⟩; obtain ⟨q0, q1, q2, q3, q4, q5, q6, q7, q8⟩ := HB2.out.2.nine; clear hb2) | (go_at_call 37; refine (rlives_any _ _ _ _ _ _ _ _ _ _ _ _ _).mono ?_; rintro e w3 ⟨rfl, hb3⟩; have HB3 : Hid (Below w.heap.size w w3) := HB2.out.1.trans (hb3.mono HB2.out.1.size); have r5 := bat hb3 HB2.out.2.ty.lt q5; have r6 := bat hb3 HB2.out.2.ty.lt q6; have rp := bat HB3.out hp hbc; have z6 := bat HB3.out hgl c6; have zf : ∀ o, w3.frozen? ⟨g, o, none⟩ = false := fun o => (HB3.out.frozen (p := ⟨g, o, none⟩) hgl).trans (hfz o); clear hb3))
        go_ret
        rw [E1.out]
        have hset := rbook_set (s' := ⟨i, ms, ow, se, cl, fr, til, cp, hd⟩) HB.out HB3.out HOWN.out.1 HOWN.out.2.1 HOWN.out.2.2 HK.out rfl (row_until l k _ _ til HK.out)
        exact ⟨rfl, _, hset.1, map_set _ _ _ _, hset.2⟩
    · have hlv' : livesB fr un tick = false := by simpa using hlv
      clear hlv
      have E1 : Hid (extendM (l.map Prod.fst) ((k : Int) + 1) pe tick til = (20, l.map Prod.fst)) := by rw [Hid, E.out, if_neg (by simp [hm]), if_pos hlv']
      go_enter Try.func45, Try.ntmps45
      go_wp2_with (first | (go_at_call 61; refine (rmay_any _ _ _ _ _ _ _ _ _ _ _ _ _).mono ?_; rintro e w2 ⟨rfl, hb2⟩; have HB2 : Hid (Below w.heap.size w w2 ∧ Blk w2 w.heap.size 24 #[.int .i64 i, .slice A1 ms.length cp1, .string ow, .string se, .int .i64 cl, .int .i64 fr, .int .i64 un, .int .i64 cp, .int .i64 hd]) := ⟨(bel1 _ _).trans (hb2.mono (by simp)), (Blk.new _ _ _).below hb2⟩; obtain ⟨q0, q1, q2, q3, q4, q5, q6, q7, q8⟩ := HB2.out.2.nine; clear hb2) | (go_at_call 37; refine (rlives_any _ _ _ _ _ _ _ _ _ _ _ _ _).mono ?_; rintro e w3 ⟨rfl, hb3⟩; have HB3 : Hid (Below w.heap.size w w3) := HB2.out.1.trans (hb3.mono HB2.out.1.size); have r5 := bat hb3 HB2.out.2.ty.lt q5; have r6 := bat hb3 HB2.out.2.ty.lt q6; have rp := bat HB3.out hp hbc; have z6 := bat HB3.out hgl c6; have zf : ∀ o, w3.frozen? ⟨g, o, none⟩ = false := fun o => (HB3.out.frozen (p := ⟨g, o, none⟩) hgl).trans (hfz o); clear hb3))
      go_ret
      rw [E1.out]
      exact ⟨rfl, l, HB.out.below HB3.out, rfl, Fr.of_below HB3.out⟩
  · have hm' : mayB ow se pe = false := by simpa using hm
    clear hm
    have E1 : Hid (extendM (l.map Prod.fst) ((k : Int) + 1) pe tick til = (16, l.map Prod.fst)) := by rw [Hid, E.out, if_pos hm']
    go_enter Try.func45, Try.ntmps45
    go_wp2_with (first | (go_at_call 61; refine (rmay_any _ _ _ _ _ _ _ _ _ _ _ _ _).mono ?_; rintro e w2 ⟨rfl, hb2⟩; have HB2 : Hid (Below w.heap.size w w2 ∧ Blk w2 w.heap.size 24 #[.int .i64 i, .slice A1 ms.length cp1, .string ow, .string se, .int .i64 cl, .int .i64 fr, .int .i64 un, .int .i64 cp, .int .i64 hd]) := ⟨(bel1 _ _).trans (hb2.mono (by simp)), (Blk.new _ _ _).below hb2⟩; obtain ⟨q0, q1, q2, q3, q4, q5, q6, q7, q8⟩ := HB2.out.2.nine; clear hb2) | (go_at_call 37; refine (rlives_any _ _ _ _ _ _ _ _ _ _ _ _ _).mono ?_; rintro e w3 ⟨rfl, hb3⟩; have HB3 : Hid (Below w.heap.size w w3) := HB2.out.1.trans (hb3.mono HB2.out.1.size); have r5 := bat hb3 HB2.out.2.ty.lt q5; have r6 := bat hb3 HB2.out.2.ty.lt q6; have rp := bat HB3.out hp hbc; have z6 := bat HB3.out hgl c6; have zf : ∀ o, w3.frozen? ⟨g, o, none⟩ = false := fun o => (HB3.out.frozen (p := ⟨g, o, none⟩) hgl).trans (hfz o); clear hb3))
    go_ret
    rw [E1.out]
    exact ⟨rfl, l, HB.out.below HB2.out.1, rfl, Fr.of_below HB2.out.1⟩

theorem rextend_any (p base : Nat) (l : List (Sil × Value)) (id tick til : Int) (pe : ByteArray) (w : World) (h : RBookAt w base p l) (hl : l.length ≤ 10000) (h1 : -9223372036854775808 ≤ id) (ht : 0 ≤ tick) (ht2 : tick ≤ 4611686018427387904) (hu1 : -4611686018427387904 ≤ til) (hu2 : til ≤ 4611686018427387904) :
    Calls Try.prog 45 #[.pointer (some ⟨p, 0, none⟩), .int .i64 id, .string pe, .int .i64 tick, .int .i64 til] w (RRetBook w base p (.int .i64 (extendM (l.map Prod.fst) id pe tick til).1) (extendM (l.map Prod.fst) id pe tick til).2) := by
  by_cases ho : id < 1 ∨ (l.length : Int) < id
  · exact rextend_out p base l id tick til pe w h hl h1 ho
  · have hk : (id - 1).toNat < l.length := by omega
    have e : id = (((id - 1).toNat : Nat) : Int) + 1 := by omega
    rw [e]
    exact rextend_in p base l (id - 1).toNat _ _ tick til pe w h hl (List.getElem?_eq_getElem hk) ht ht2 hu1 hu2

set_option maxHeartbeats 1000000 in
theorem rend_out (p base : Nat) (l : List (Sil × Value)) (id tick : Int) (pe : ByteArray) (w : World) (h : RBookAt w base p l) (hl : l.length ≤ 10000) (h1 : -9223372036854775808 ≤ id) (ho : id < 1 ∨ (l.length : Int) < id) :
    Calls Try.prog 46 #[.pointer (some ⟨p, 0, none⟩), .int .i64 id, .string pe, .int .i64 tick] w (RRetBook w base p (.int .i64 (endM (l.map Prod.fst) id pe tick).1) (endM (l.map Prod.fst) id pe tick).2) := by
  have E0 : findE (l.map Prod.fst) id pe = 9 := if_pos (by simpa using ho)
  have E : Hid (endM (l.map Prod.fst) id pe tick = (9, l.map Prod.fst)) := by unfold endM; rw [E0]; rfl
  obtain ⟨A0, c0, hblk, hown, hss⟩ := h.form
  have hbc := hblk.one
  have HB := Lib.hid h
  clear h hblk hown hss E0
  rcases ho with ho | ho
  · go_enter Try.func46, Try.ntmps46
    go_wp2
    go_ret
    rw [E.out]
    exact ⟨rfl, l, HB.out, rfl, Fr.refl _ _ _⟩
  · by_cases ho2 : id < 1
    · go_enter Try.func46, Try.ntmps46
      go_wp2
      go_ret
      rw [E.out]
      exact ⟨rfl, l, HB.out, rfl, Fr.refl _ _ _⟩
    · go_enter Try.func46, Try.ntmps46
      go_wp2
      go_ret
      rw [E.out]
      exact ⟨rfl, l, HB.out, rfl, Fr.refl _ _ _⟩


set_option maxHeartbeats 2000000 in
theorem rend_in (p base : Nat) (l : List (Sil × Value)) (k : Nat) (s : Sil) (mv : Value) (tick : Int) (pe : ByteArray) (w : World) (h : RBookAt w base p l) (hl : l.length ≤ 10000) (hk : l[k]? = some (s, mv)) :
    Calls Try.prog 46 #[.pointer (some ⟨p, 0, none⟩), .int .i64 ((k : Int) + 1), .string pe, .int .i64 tick] w (RRetBook w base p (.int .i64 (endM (l.map Prod.fst) ((k : Int) + 1) pe tick).1) (endM (l.map Prod.fst) ((k : Int) + 1) pe tick).2) := by
  have hkl : k < l.length := (List.getElem?_eq_some_iff.1 hk).1
  have E0 : endM (l.map Prod.fst) ((k : Int) + 1) pe tick = if mayB s.ow s.se pe = false then (16, l.map Prod.fst) else if openB s.fr s.un tick = false then (20, l.map Prod.fst) else (0, (l.map Prod.fst).set k { s with un := max tick s.fr }) := by
    unfold endM
    rw [findE_in hk, show ((k : Int) + 1 - 1).toNat = k by omega]
    cases hm : mayB s.ow s.se pe <;> simp [hk]
  have E := Lib.hid E0
  obtain ⟨g, cap, hrow⟩ := h.row
  obtain ⟨hblk, hg, hown⟩ := hrow (by omega)
  obtain ⟨c0, c1, c2, c3, c4, c5, c6, c7, c8⟩ := rrow_at hown hk
  have hfz := hown.frozenAt
  have hgl : g < w.heap.size := (own_ty hown g rfl).2.lt
  have hbc := hblk.one
  have hp := hblk.ty.lt
  obtain ⟨_, _, _, _, hok⟩ := id h
  have hmx := hok (s, mv) (List.mem_of_getElem? hk)
  obtain ⟨A1, cp1, hmv⟩ := hmx.1.form
  simp only at hmv
  subst hmv
  have HB := Lib.hid h
  have HK := Lib.hid hk
  have HOWN := Lib.hid (And.intro hblk (And.intro hg hown))
  clear h hrow hblk hg hown hk hmx E0 hok
  obtain ⟨i, ms, ow, se, cl, fr, un, cp, hd⟩ := s
  simp only at c0 c1 c2 c3 c4 c5 c6 c7 c8
  by_cases hm : mayB ow se pe = true
  · by_cases hlv : openB fr un tick = true
    · rcases Int.lt_or_le tick fr with hc | hc
      · have E1 : Hid (endM (l.map Prod.fst) ((k : Int) + 1) pe tick = (0, (l.map Prod.fst).set k ⟨i, ms, ow, se, cl, fr, fr, cp, hd⟩)) := by rw [Hid, E.out, if_neg (by simp [hm]), if_neg (by simp [hlv])]; simp only; rw [show max tick fr = fr by omega]
        go_enter Try.func46, Try.ntmps46
        go_wp2_with (first | (go_at_call 61; refine (rmay_any _ _ _ _ _ _ _ _ _ _ _ _ _).mono ?_; rintro e w2 ⟨rfl, hb2⟩; have HB2 : Hid (Below w.heap.size w w2 ∧ Blk w2 w.heap.size 24 #[.int .i64 i, .slice A1 ms.length cp1, .string ow, .string se, .int .i64 cl, .int .i64 fr, .int .i64 un, .int .i64 cp, .int .i64 hd]) := ⟨(bel1 _ _).trans (hb2.mono (by simp)), (Blk.new _ _ _).below hb2⟩; obtain ⟨q0, q1, q2, q3, q4, q5, q6, q7, q8⟩ := HB2.out.2.nine; clear hb2) | (go_at_call 52; refine (ropen_any _ _ _ _ _ _ _ _ _ _ _ _ _).mono ?_; rintro e w3 ⟨rfl, hb3⟩; have HB3 : Hid (Below w.heap.size w w3) := HB2.out.1.trans (hb3.mono HB2.out.1.size); have r5 := bat hb3 HB2.out.2.ty.lt q5; have r6 := bat hb3 HB2.out.2.ty.lt q6; have rp := bat HB3.out hp hbc; have z6 := bat HB3.out hgl c6; have zf : ∀ o, w3.frozen? ⟨g, o, none⟩ = false := fun o => (HB3.out.frozen (p := ⟨g, o, none⟩) hgl).trans (hfz o); clear hb3))
        have hs1 : IntKind.i64.wrap ((k : Int) + 1 - 1) = (k : Int) := by rw [IntWalk.i64_in _ (by omega)]; omega
        have hs2 : ((k : Int)).toNat = k := by omega
        go_region
        all_goals
          go_wp2
          go_ret
          rw [E1.out]
          have hset := rbook_set (s' := ⟨i, ms, ow, se, cl, fr, fr, cp, hd⟩) HB.out HB3.out HOWN.out.1 HOWN.out.2.1 HOWN.out.2.2 HK.out rfl (row_until l k _ _ fr HK.out)
          exact ⟨rfl, _, hset.1, map_set _ _ _ _, hset.2.drew⟩
      · have E1 : Hid (endM (l.map Prod.fst) ((k : Int) + 1) pe tick = (0, (l.map Prod.fst).set k ⟨i, ms, ow, se, cl, fr, tick, cp, hd⟩)) := by rw [Hid, E.out, if_neg (by simp [hm]), if_neg (by simp [hlv])]; simp only; rw [show max tick fr = tick by omega]
        go_enter Try.func46, Try.ntmps46
        go_wp2_with (first | (go_at_call 61; refine (rmay_any _ _ _ _ _ _ _ _ _ _ _ _ _).mono ?_; rintro e w2 ⟨rfl, hb2⟩; have HB2 : Hid (Below w.heap.size w w2 ∧ Blk w2 w.heap.size 24 #[.int .i64 i, .slice A1 ms.length cp1, .string ow, .string se, .int .i64 cl, .int .i64 fr, .int .i64 un, .int .i64 cp, .int .i64 hd]) := ⟨(bel1 _ _).trans (hb2.mono (by simp)), (Blk.new _ _ _).below hb2⟩; obtain ⟨q0, q1, q2, q3, q4, q5, q6, q7, q8⟩ := HB2.out.2.nine; clear hb2) | (go_at_call 52; refine (ropen_any _ _ _ _ _ _ _ _ _ _ _ _ _).mono ?_; rintro e w3 ⟨rfl, hb3⟩; have HB3 : Hid (Below w.heap.size w w3) := HB2.out.1.trans (hb3.mono HB2.out.1.size); have r5 := bat hb3 HB2.out.2.ty.lt q5; have r6 := bat hb3 HB2.out.2.ty.lt q6; have rp := bat HB3.out hp hbc; have z6 := bat HB3.out hgl c6; have zf : ∀ o, w3.frozen? ⟨g, o, none⟩ = false := fun o => (HB3.out.frozen (p := ⟨g, o, none⟩) hgl).trans (hfz o); clear hb3))
        have hs1 : IntKind.i64.wrap ((k : Int) + 1 - 1) = (k : Int) := by rw [IntWalk.i64_in _ (by omega)]; omega
        have hs2 : ((k : Int)).toNat = k := by omega
        go_region
        all_goals
          go_wp2
          go_ret
          rw [E1.out]
          have hset := rbook_set (s' := ⟨i, ms, ow, se, cl, fr, tick, cp, hd⟩) HB.out HB3.out HOWN.out.1 HOWN.out.2.1 HOWN.out.2.2 HK.out rfl (row_until l k _ _ tick HK.out)
          exact ⟨rfl, _, hset.1, map_set _ _ _ _, hset.2.drew⟩
    · have hlv' : openB fr un tick = false := by simpa using hlv
      clear hlv
      have E1 : Hid (endM (l.map Prod.fst) ((k : Int) + 1) pe tick = (20, l.map Prod.fst)) := by rw [Hid, E.out, if_neg (by simp [hm]), if_pos hlv']
      go_enter Try.func46, Try.ntmps46
      go_wp2_with (first | (go_at_call 61; refine (rmay_any _ _ _ _ _ _ _ _ _ _ _ _ _).mono ?_; rintro e w2 ⟨rfl, hb2⟩; have HB2 : Hid (Below w.heap.size w w2 ∧ Blk w2 w.heap.size 24 #[.int .i64 i, .slice A1 ms.length cp1, .string ow, .string se, .int .i64 cl, .int .i64 fr, .int .i64 un, .int .i64 cp, .int .i64 hd]) := ⟨(bel1 _ _).trans (hb2.mono (by simp)), (Blk.new _ _ _).below hb2⟩; obtain ⟨q0, q1, q2, q3, q4, q5, q6, q7, q8⟩ := HB2.out.2.nine; clear hb2) | (go_at_call 52; refine (ropen_any _ _ _ _ _ _ _ _ _ _ _ _ _).mono ?_; rintro e w3 ⟨rfl, hb3⟩; have HB3 : Hid (Below w.heap.size w w3) := HB2.out.1.trans (hb3.mono HB2.out.1.size); have r5 := bat hb3 HB2.out.2.ty.lt q5; have r6 := bat hb3 HB2.out.2.ty.lt q6; have rp := bat HB3.out hp hbc; have z6 := bat HB3.out hgl c6; have zf : ∀ o, w3.frozen? ⟨g, o, none⟩ = false := fun o => (HB3.out.frozen (p := ⟨g, o, none⟩) hgl).trans (hfz o); clear hb3))
      go_ret
      rw [E1.out]
      exact ⟨rfl, l, HB.out.below HB3.out, rfl, Fr.of_below HB3.out⟩
  · have hm' : mayB ow se pe = false := by simpa using hm
    clear hm
    have E1 : Hid (endM (l.map Prod.fst) ((k : Int) + 1) pe tick = (16, l.map Prod.fst)) := by rw [Hid, E.out, if_pos hm']
    go_enter Try.func46, Try.ntmps46
    go_wp2_with (first | (go_at_call 61; refine (rmay_any _ _ _ _ _ _ _ _ _ _ _ _ _).mono ?_; rintro e w2 ⟨rfl, hb2⟩; have HB2 : Hid (Below w.heap.size w w2 ∧ Blk w2 w.heap.size 24 #[.int .i64 i, .slice A1 ms.length cp1, .string ow, .string se, .int .i64 cl, .int .i64 fr, .int .i64 un, .int .i64 cp, .int .i64 hd]) := ⟨(bel1 _ _).trans (hb2.mono (by simp)), (Blk.new _ _ _).below hb2⟩; obtain ⟨q0, q1, q2, q3, q4, q5, q6, q7, q8⟩ := HB2.out.2.nine; clear hb2) | (go_at_call 52; refine (ropen_any _ _ _ _ _ _ _ _ _ _ _ _ _).mono ?_; rintro e w3 ⟨rfl, hb3⟩; have HB3 : Hid (Below w.heap.size w w3) := HB2.out.1.trans (hb3.mono HB2.out.1.size); have r5 := bat hb3 HB2.out.2.ty.lt q5; have r6 := bat hb3 HB2.out.2.ty.lt q6; have rp := bat HB3.out hp hbc; have z6 := bat HB3.out hgl c6; have zf : ∀ o, w3.frozen? ⟨g, o, none⟩ = false := fun o => (HB3.out.frozen (p := ⟨g, o, none⟩) hgl).trans (hfz o); clear hb3))
    go_ret
    rw [E1.out]
    exact ⟨rfl, l, HB.out.below HB2.out.1, rfl, Fr.of_below HB2.out.1⟩

theorem rend_any (p base : Nat) (l : List (Sil × Value)) (id tick : Int) (pe : ByteArray) (w : World) (h : RBookAt w base p l) (hl : l.length ≤ 10000) (h1 : -9223372036854775808 ≤ id) :
    Calls Try.prog 46 #[.pointer (some ⟨p, 0, none⟩), .int .i64 id, .string pe, .int .i64 tick] w (RRetBook w base p (.int .i64 (endM (l.map Prod.fst) id pe tick).1) (endM (l.map Prod.fst) id pe tick).2) := by
  by_cases ho : id < 1 ∨ (l.length : Int) < id
  · exact rend_out p base l id tick pe w h hl h1 ho
  · have hk : (id - 1).toNat < l.length := by omega
    have e : id = (((id - 1).toNat : Nat) : Int) + 1 := by omega
    rw [e]
    exact rend_in p base l (id - 1).toNat _ _ tick pe w h hl (List.getElem?_eq_getElem hk)
end Go.Proofs.Ytoafpajibeejlaa
