/- The reference's book, with footprints. -/
import Derived.Test.YtoafpajibeejlaaFo2
set_option linter.unusedVariables false
set_option linter.unusedSimpArgs false
namespace Go.Proofs.Ytoafpajibeejlaa.F
open Go.RowKit

theorem rbook_set {w w1 : World} {base p g cap k j : Nat} {l : List (Sil × Value)} {s s' : Sil} {mv u : Value} (h : RBookAt w base p l) (hb : Below w.heap.size w w1) (hblk : Blk w p 60 #[.slice (some ⟨g, 0, none⟩) l.length cap]) (hg : base ≤ g)
    (hown : w.ownsRow base 24 9 (.slice (some ⟨g, 0, none⟩) l.length cap) l.length (rowCells l)) (hk : l[k]? = some (s, mv)) (hms : s'.ms = s.ms) (hr : (rowCells l).set (k * 9 + j) u = rowCells (l.set k (s', mv))) :
    RBookAt (w1.setCell ⟨g, k * 9 + j, none⟩ u) base p (l.set k (s', mv)) ∧ (Fr base [60, 24] w (w1.setCell ⟨g, k * 9 + j, none⟩ u) ∧ FF p w (w1.setCell ⟨g, k * 9 + j, none⟩ u)) := by
  have hown1 := own_below hown hb
  have f : Fr base [24] w1 (w1.setCell ⟨g, k * 9 + j, none⟩ u) := Fr.setAt (Fr.refl _ _ _) (own_ty hown1 g rfl).2 (by decide) hg _ _
  refine ⟨⟨h.1, _, (hblk.below hb).keep f (by decide), ?_, ?_⟩, ⟨(Fr.of_below hb).trans (f.more (by simp)), FF.after hblk.ty.lt hb (FF.set u (rowOf_blk (hblk.below hb)) (ne_of_ty (own_ty hown1 g rfl).2 (hblk.below hb).ty (by decide)))⟩⟩
  · have := (hown1.stored (k * 9 + j) u).1
    rw [hr] at this
    rw [List.length_set]
    exact this
  · obtain ⟨_, _, _, _, hok⟩ := h
    intro x hx
    rcases List.mem_or_eq_of_mem_set hx with hx | hx
    · exact (hok.below hb).keep f (by decide) x hx
    · subst hx
      have := (hok.below hb).keep f (by decide) (s, mv) (List.mem_of_getElem? hk)
      simp only [hms] at this ⊢
      exact this
set_option maxHeartbeats 1000000 in
theorem rextend_out (p base : Nat) (l : List (Sil × Value)) (id tick til : Int) (pe : ByteArray) (w : World) (h : RBookAt w base p l) (hl : l.length ≤ 10000) (h1 : -9223372036854775808 ≤ id) (ho : id < 1 ∨ (l.length : Int) < id) :
    Calls Try.prog 45 #[.pointer (some ⟨p, 0, none⟩), .int .i64 id, .string pe, .int .i64 tick, .int .i64 til] w (RRetBook w base p (.int .i64 (extendM (l.map Prod.fst) id pe tick til).1) (extendM (l.map Prod.fst) id pe tick til).2) := by
  have E0 : findE (l.map Prod.fst) id pe = 9 := if_pos (by simpa using ho)
  have E : Hid (extendM (l.map Prod.fst) id pe tick til = (9, l.map Prod.fst)) := by unfold extendM; rw [E0]; rfl
  obtain ⟨A0, c0, hblk, hown, hss⟩ := h.form
  have hbc := hblk.one
  have HB := Lib.hid h
  clear h hblk hown hss E0
  rcases ho with ho | ho
  · go_enter Try.func45, Try.ntmps45
    go_wp2
    go_ret
    rw [E.out]
    exact ⟨rfl, l, HB.out, rfl, ⟨Fr.refl _ _ _, FF.refl _ _⟩⟩
  · by_cases ho2 : id < 1
    · go_enter Try.func45, Try.ntmps45
      go_wp2
      go_ret
      rw [E.out]
      exact ⟨rfl, l, HB.out, rfl, ⟨Fr.refl _ _ _, FF.refl _ _⟩⟩
    · go_enter Try.func45, Try.ntmps45
      go_wp2
      go_ret
      rw [E.out]
      exact ⟨rfl, l, HB.out, rfl, ⟨Fr.refl _ _ _, FF.refl _ _⟩⟩


set_option maxHeartbeats 2000000 in
theorem rextend_in (p base : Nat) (l : List (Sil × Value)) (k : Nat) (s : Sil) (mv : Value) (tick til : Int) (pe : ByteArray) (w : World) (h : RBookAt w base p l) (hl : l.length ≤ 10000) (hk : l[k]? = some (s, mv)) (ht : 0 ≤ tick) (ht2 : tick ≤ 4611686018427387904) (hu1 : -4611686018427387904 ≤ til) (hu2 : til ≤ 4611686018427387904) :
    Calls Try.prog 45 #[.pointer (some ⟨p, 0, none⟩), .int .i64 ((k : Int) + 1), .string pe, .int .i64 tick, .int .i64 til] w (RRetBook w base p (.int .i64 (extendM (l.map Prod.fst) ((k : Int) + 1) pe tick til).1) (extendM (l.map Prod.fst) ((k : Int) + 1) pe tick til).2) := by
  have hkl : k < l.length := (List.getElem?_eq_some_iff.1 hk).1
  have E0 : extendM (l.map Prod.fst) ((k : Int) + 1) pe tick til = if mayB s.ow s.se pe = false then (16, l.map Prod.fst) else if livesB s.fr s.un tick = false then (20, l.map Prod.fst) else if til < s.un ∨ 1000 < til - tick ∨ 1048576 < til then (5, l.map Prod.fst) else (0, (l.map Prod.fst).set k { s with un := til }) := by
    unfold extendM
    rw [findE_in hk, show ((k : Int) + 1 - 1).toNat = k by omega]
    cases hm : mayB s.ow s.se pe <;> simp [hk]
  have E := Lib.hid E0
  obtain ⟨g, cap, hrow⟩ := h.row
  obtain ⟨hblk, hg, hown⟩ := hrow (by omega)
  obtain ⟨c0, c1, c2, c3, c4, c5, c6, c7, c8⟩ := rrow_at hown hk
  have hfz := hown.frozenAt
  have hgl : g < w.heap.size := (own_ty hown g rfl).2.lt
  have hbc := hblk.one
  have hp := hblk.ty.lt
  obtain ⟨_, _, _, _, hok⟩ := id h
  have hmx := hok (s, mv) (List.mem_of_getElem? hk)
  obtain ⟨A1, cp1, hmv⟩ := hmx.1.form
  simp only at hmv
  subst hmv
  have HB := Lib.hid h
  have HK := Lib.hid hk
  have HOWN := Lib.hid (And.intro hblk (And.intro hg hown))
  clear h hrow hblk hg hown hk hmx E0 hok
  obtain ⟨i, ms, ow, se, cl, fr, un, cp, hd⟩ := s
  simp only at c0 c1 c2 c3 c4 c5 c6 c7 c8
  by_cases hm : mayB ow se pe = true
  · by_cases hlv : livesB fr un tick = true
    · by_cases hr : til < un ∨ 1000 < til - tick ∨ 1048576 < til
      · have E1 : Hid (extendM (l.map Prod.fst) ((k : Int) + 1) pe tick til = (5, l.map Prod.fst)) := by rw [Hid, E.out, if_neg (by simp [hm]), if_neg (by simp [hlv]), if_pos hr]
        go_enter Try.func45, Try.ntmps45
        go_wp2_with (first | (go_at_call 61; refine (rmay_any _ _ _ _ _ _ _ _ _ _ _ _ _).mono ?_; rintro e w2 ⟨rfl, hb2⟩; have HB2 : Hid (Below w.heap.size w w2 ∧ Blk w2 w.heap.size 24 #[.int .i64 i, .slice A1 ms.length cp1, .string ow, .string se, .int .i64 cl, .int .i64 fr, .int .i64 un, .int .i64 cp, .int .i64 hd]) := ⟨(bel1 _ _).trans (hb2.mono (by simp)), (Blk.new _ _ _).below hb2⟩; obtain ⟨q0, q1, q2, q3, q4, q5, q6, q7, q8⟩ := HB2.out.2.nine; clear hb2) | (go_at_call 37; refine (rlives_any _ _ _ _ _ _ _ _ _ _ _ _ _).mono ?_; rintro e w3 ⟨rfl, hb3⟩; have HB3 : Hid (Below w.heap.size w w3) := HB2.out.1.trans (hb3.mono HB2.out.1.size); have r5 := bat hb3 HB2.out.2.ty.lt q5; have r6 := bat hb3 HB2.out.2.ty.lt q6; have rp := bat HB3.out hp hbc; have z6 := bat HB3.out hgl c6; have zf : ∀ o, w3.frozen? ⟨g, o, none⟩ = false := fun o => (HB3.out.frozen (p := ⟨g, o, none⟩) hgl).trans (hfz o); clear hb3))
        all_goals
          go_ret
          rw [E1.out]
          exact ⟨rfl, l, HB.out.below HB3.out, rfl, ⟨Fr.of_below HB3.out, FF.of_below (rlt HB.out) HB3.out⟩⟩
      · have E1 : Hid (extendM (l.map Prod.fst) ((k : Int) + 1) pe tick til = (0, (l.map Prod.fst).set k ⟨i, ms, ow, se, cl, fr, til, cp, hd⟩)) := by rw [Hid, E.out, if_neg (by simp [hm]), if_neg (by simp [hlv]), if_neg hr]
        have hr1 : un ≤ til := by omega
        have hr2 : til - tick ≤ 1000 := by omega
        have hr3 : til ≤ 1048576 := by omega
        clear hr
        go_enter Try.func45, Try.ntmps45
        go_wp2_with (first | (go_at_call 61; refine (rmay_any _ _ _ _ _ _ _ _ _ _ _ _ _).mono ?_; rintro e w2 ⟨rfl, hb2⟩; have HB2 : Hid (Below w.heap.size w w2 ∧ Blk w2 w.heap.size 24 #[.int .i64 i, .slice A1 ms.length cp1, .string ow, .string se, .int .i64 cl, .int .i64 fr, .int .i64 un, .int .i64 cp, .int .i64 hd]) := ⟨(bel1 _ _).trans (hb2.mono (by simp)), (Blk.new _ _ _).below hb2⟩; obtain ⟨q0, q1, q2, q3, q4, q5, q6, q7, q8⟩ := HB2.out.2.nine; clear hb2) | (go_at_call 37; refine (rlives_any _ _ _ _ _ _ _ _ _ _ _ _ _).mono ?_; rintro e w3 ⟨rfl, hb3⟩; have HB3 : Hid (Below w.heap.size w w3) := HB2.out.1.trans (hb3.mono HB2.out.1.size); have r5 := bat hb3 HB2.out.2.ty.lt q5; have r6 := bat hb3 HB2.out.2.ty.lt q6; have rp := bat HB3.out hp hbc; have z6 := bat HB3.out hgl c6; have zf : ∀ o, w3.frozen? ⟨g, o, none⟩ = false := fun o => (HB3.out.frozen (p := ⟨g, o, none⟩) hgl).trans (hfz o); clear hb3))
        go_ret
        rw [E1.out]
        have hset := rbook_set (s' := ⟨i, ms, ow, se, cl, fr, til, cp, hd⟩) HB.out HB3.out HOWN.out.1 HOWN.out.2.1 HOWN.out.2.2 HK.out rfl (row_until l k _ _ til HK.out)
        exact ⟨rfl, _, hset.1, map_set _ _ _ _, hset.2⟩
    · have hlv' : livesB fr un tick = false := by simpa using hlv
      clear hlv
      have E1 : Hid (extendM (l.map Prod.fst) ((k : Int) + 1) pe tick til = (20, l.map Prod.fst)) := by rw [Hid, E.out, if_neg (by simp [hm]), if_pos hlv']
      go_enter Try.func45, Try.ntmps45
      go_wp2_with (first | (go_at_call 61; refine (rmay_any _ _ _ _ _ _ _ _ _ _ _ _ _).mono ?_; rintro e w2 ⟨rfl, hb2⟩; have HB2 : Hid (Below w.heap.size w w2 ∧ Blk w2 w.heap.size 24 #[.int .i64 i, .slice A1 ms.length cp1, .string ow, .string se, .int .i64 cl, .int .i64 fr, .int .i64 un, .int .i64 cp, .int .i64 hd]) := ⟨(bel1 _ _).trans (hb2.mono (by simp)), (Blk.new _ _ _).below hb2⟩; obtain ⟨q0, q1, q2, q3, q4, q5, q6, q7, q8⟩ := HB2.out.2.nine; clear hb2) | (go_at_call 37; refine (rlives_any _ _ _ _ _ _ _ _ _ _ _ _ _).mono ?_; rintro e w3 ⟨rfl, hb3⟩; have HB3 : Hid (Below w.heap.size w w3) := HB2.out.1.trans (hb3.mono HB2.out.1.size); have r5 := bat hb3 HB2.out.2.ty.lt q5; have r6 := bat hb3 HB2.out.2.ty.lt q6; have rp := bat HB3.out hp hbc; have z6 := bat HB3.out hgl c6; have zf : ∀ o, w3.frozen? ⟨g, o, none⟩ = false := fun o => (HB3.out.frozen (p := ⟨g, o, none⟩) hgl).trans (hfz o); clear hb3))
      go_ret
      rw [E1.out]
      exact ⟨rfl, l, HB.out.below HB3.out, rfl, ⟨Fr.of_below HB3.out, FF.of_below (rlt HB.out) HB3.out⟩⟩
  · have hm' : mayB ow se pe = false := by simpa using hm
    clear hm
    have E1 : Hid (extendM (l.map Prod.fst) ((k : Int) + 1) pe tick til = (16, l.map Prod.fst)) := by rw [Hid, E.out, if_pos hm']
    go_enter Try.func45, Try.ntmps45
    go_wp2_with (first | (go_at_call 61; refine (rmay_any _ _ _ _ _ _ _ _ _ _ _ _ _).mono ?_; rintro e w2 ⟨rfl, hb2⟩; have HB2 : Hid (Below w.heap.size w w2 ∧ Blk w2 w.heap.size 24 #[.int .i64 i, .slice A1 ms.length cp1, .string ow, .string se, .int .i64 cl, .int .i64 fr, .int .i64 un, .int .i64 cp, .int .i64 hd]) := ⟨(bel1 _ _).trans (hb2.mono (by simp)), (Blk.new _ _ _).below hb2⟩; obtain ⟨q0, q1, q2, q3, q4, q5, q6, q7, q8⟩ := HB2.out.2.nine; clear hb2) | (go_at_call 37; refine (rlives_any _ _ _ _ _ _ _ _ _ _ _ _ _).mono ?_; rintro e w3 ⟨rfl, hb3⟩; have HB3 : Hid (Below w.heap.size w w3) := HB2.out.1.trans (hb3.mono HB2.out.1.size); have r5 := bat hb3 HB2.out.2.ty.lt q5; have r6 := bat hb3 HB2.out.2.ty.lt q6; have rp := bat HB3.out hp hbc; have z6 := bat HB3.out hgl c6; have zf : ∀ o, w3.frozen? ⟨g, o, none⟩ = false := fun o => (HB3.out.frozen (p := ⟨g, o, none⟩) hgl).trans (hfz o); clear hb3))
    go_ret
    rw [E1.out]
    exact ⟨rfl, l, HB.out.below HB2.out.1, rfl, ⟨Fr.of_below HB2.out.1, FF.of_below (rlt HB.out) HB2.out.1⟩⟩

theorem rextend_any (p base : Nat) (l : List (Sil × Value)) (id tick til : Int) (pe : ByteArray) (w : World) (h : RBookAt w base p l) (hl : l.length ≤ 10000) (h1 : -9223372036854775808 ≤ id) (ht : 0 ≤ tick) (ht2 : tick ≤ 4611686018427387904) (hu1 : -4611686018427387904 ≤ til) (hu2 : til ≤ 4611686018427387904) :
    Calls Try.prog 45 #[.pointer (some ⟨p, 0, none⟩), .int .i64 id, .string pe, .int .i64 tick, .int .i64 til] w (RRetBook w base p (.int .i64 (extendM (l.map Prod.fst) id pe tick til).1) (extendM (l.map Prod.fst) id pe tick til).2) := by
  by_cases ho : id < 1 ∨ (l.length : Int) < id
  · exact rextend_out p base l id tick til pe w h hl h1 ho
  · have hk : (id - 1).toNat < l.length := by omega
    have e : id = (((id - 1).toNat : Nat) : Int) + 1 := by omega
    rw [e]
    exact rextend_in p base l (id - 1).toNat _ _ tick til pe w h hl (List.getElem?_eq_getElem hk) ht ht2 hu1 hu2

set_option maxHeartbeats 1000000 in
theorem rend_out (p base : Nat) (l : List (Sil × Value)) (id tick : Int) (pe : ByteArray) (w : World) (h : RBookAt w base p l) (hl : l.length ≤ 10000) (h1 : -9223372036854775808 ≤ id) (ho : id < 1 ∨ (l.length : Int) < id) :
    Calls Try.prog 46 #[.pointer (some ⟨p, 0, none⟩), .int .i64 id, .string pe, .int .i64 tick] w (RRetBook w base p (.int .i64 (endM (l.map Prod.fst) id pe tick).1) (endM (l.map Prod.fst) id pe tick).2) := by
  have E0 : findE (l.map Prod.fst) id pe = 9 := if_pos (by simpa using ho)
  have E : Hid (endM (l.map Prod.fst) id pe tick = (9, l.map Prod.fst)) := by unfold endM; rw [E0]; rfl
  obtain ⟨A0, c0, hblk, hown, hss⟩ := h.form
  have hbc := hblk.one
  have HB := Lib.hid h
  clear h hblk hown hss E0
  rcases ho with ho | ho
  · go_enter Try.func46, Try.ntmps46
    go_wp2
    go_ret
    rw [E.out]
    exact ⟨rfl, l, HB.out, rfl, ⟨Fr.refl _ _ _, FF.refl _ _⟩⟩
  · by_cases ho2 : id < 1
    · go_enter Try.func46, Try.ntmps46
      go_wp2
      go_ret
      rw [E.out]
      exact ⟨rfl, l, HB.out, rfl, ⟨Fr.refl _ _ _, FF.refl _ _⟩⟩
    · go_enter Try.func46, Try.ntmps46
      go_wp2
      go_ret
      rw [E.out]
      exact ⟨rfl, l, HB.out, rfl, ⟨Fr.refl _ _ _, FF.refl _ _⟩⟩


set_option maxHeartbeats 2000000 in
theorem rend_in (p base : Nat) (l : List (Sil × Value)) (k : Nat) (s : Sil) (mv : Value) (tick : Int) (pe : ByteArray) (w : World) (h : RBookAt w base p l) (hl : l.length ≤ 10000) (hk : l[k]? = some (s, mv)) :
    Calls Try.prog 46 #[.pointer (some ⟨p, 0, none⟩), .int .i64 ((k : Int) + 1), .string pe, .int .i64 tick] w (RRetBook w base p (.int .i64 (endM (l.map Prod.fst) ((k : Int) + 1) pe tick).1) (endM (l.map Prod.fst) ((k : Int) + 1) pe tick).2) := by
  have hkl : k < l.length := (List.getElem?_eq_some_iff.1 hk).1
  have E0 : endM (l.map Prod.fst) ((k : Int) + 1) pe tick = if mayB s.ow s.se pe = false then (16, l.map Prod.fst) else if openB s.fr s.un tick = false then (20, l.map Prod.fst) else (0, (l.map Prod.fst).set k { s with un := max tick s.fr }) := by
    unfold endM
    rw [findE_in hk, show ((k : Int) + 1 - 1).toNat = k by omega]
    cases hm : mayB s.ow s.se pe <;> simp [hk]
  have E := Lib.hid E0
  obtain ⟨g, cap, hrow⟩ := h.row
  obtain ⟨hblk, hg, hown⟩ := hrow (by omega)
  obtain ⟨c0, c1, c2, c3, c4, c5, c6, c7, c8⟩ := rrow_at hown hk
  have hfz := hown.frozenAt
  have hgl : g < w.heap.size := (own_ty hown g rfl).2.lt
  have hbc := hblk.one
  have hp := hblk.ty.lt
  obtain ⟨_, _, _, _, hok⟩ := id h
  have hmx := hok (s, mv) (List.mem_of_getElem? hk)
  obtain ⟨A1, cp1, hmv⟩ := hmx.1.form
  simp only at hmv
  subst hmv
  have HB := Lib.hid h
  have HK := Lib.hid hk
  have HOWN := Lib.hid (And.intro hblk (And.intro hg hown))
  clear h hrow hblk hg hown hk hmx E0 hok
  obtain ⟨i, ms, ow, se, cl, fr, un, cp, hd⟩ := s
  simp only at c0 c1 c2 c3 c4 c5 c6 c7 c8
  by_cases hm : mayB ow se pe = true
  · by_cases hlv : openB fr un tick = true
    · rcases Int.lt_or_le tick fr with hc | hc
      · have E1 : Hid (endM (l.map Prod.fst) ((k : Int) + 1) pe tick = (0, (l.map Prod.fst).set k ⟨i, ms, ow, se, cl, fr, fr, cp, hd⟩)) := by rw [Hid, E.out, if_neg (by simp [hm]), if_neg (by simp [hlv])]; simp only; rw [show max tick fr = fr by omega]
        go_enter Try.func46, Try.ntmps46
        go_wp2_with (first | (go_at_call 61; refine (rmay_any _ _ _ _ _ _ _ _ _ _ _ _ _).mono ?_; rintro e w2 ⟨rfl, hb2⟩; have HB2 : Hid (Below w.heap.size w w2 ∧ Blk w2 w.heap.size 24 #[.int .i64 i, .slice A1 ms.length cp1, .string ow, .string se, .int .i64 cl, .int .i64 fr, .int .i64 un, .int .i64 cp, .int .i64 hd]) := ⟨(bel1 _ _).trans (hb2.mono (by simp)), (Blk.new _ _ _).below hb2⟩; obtain ⟨q0, q1, q2, q3, q4, q5, q6, q7, q8⟩ := HB2.out.2.nine; clear hb2) | (go_at_call 52; refine (ropen_any _ _ _ _ _ _ _ _ _ _ _ _ _).mono ?_; rintro e w3 ⟨rfl, hb3⟩; have HB3 : Hid (Below w.heap.size w w3) := HB2.out.1.trans (hb3.mono HB2.out.1.size); have r5 := bat hb3 HB2.out.2.ty.lt q5; have r6 := bat hb3 HB2.out.2.ty.lt q6; have rp := bat HB3.out hp hbc; have z6 := bat HB3.out hgl c6; have zf : ∀ o, w3.frozen? ⟨g, o, none⟩ = false := fun o => (HB3.out.frozen (p := ⟨g, o, none⟩) hgl).trans (hfz o); clear hb3))
        have hs1 : IntKind.i64.wrap ((k : Int) + 1 - 1) = (k : Int) := by rw [IntWalk.i64_in _ (by omega)]; omega
        have hs2 : ((k : Int)).toNat = k := by omega
        go_region
        all_goals
          go_wp2
          go_ret
          rw [E1.out]
          have hset := rbook_set (s' := ⟨i, ms, ow, se, cl, fr, fr, cp, hd⟩) HB.out HB3.out HOWN.out.1 HOWN.out.2.1 HOWN.out.2.2 HK.out rfl (row_until l k _ _ fr HK.out)
          exact ⟨rfl, _, hset.1, map_set _ _ _ _, ⟨hset.2.1.drew, hset.2.2.drew⟩⟩
      · have E1 : Hid (endM (l.map Prod.fst) ((k : Int) + 1) pe tick = (0, (l.map Prod.fst).set k ⟨i, ms, ow, se, cl, fr, tick, cp, hd⟩)) := by rw [Hid, E.out, if_neg (by simp [hm]), if_neg (by simp [hlv])]; simp only; rw [show max tick fr = tick by omega]
        go_enter Try.func46, Try.ntmps46
        go_wp2_with (first | (go_at_call 61; refine (rmay_any _ _ _ _ _ _ _ _ _ _ _ _ _).mono ?_; rintro e w2 ⟨rfl, hb2⟩; have HB2 : Hid (Below w.heap.size w w2 ∧ Blk w2 w.heap.size 24 #[.int .i64 i, .slice A1 ms.length cp1, .string ow, .string se, .int .i64 cl, .int .i64 fr, .int .i64 un, .int .i64 cp, .int .i64 hd]) := ⟨(bel1 _ _).trans (hb2.mono (by simp)), (Blk.new _ _ _).below hb2⟩; obtain ⟨q0, q1, q2, q3, q4, q5, q6, q7, q8⟩ := HB2.out.2.nine; clear hb2) | (go_at_call 52; refine (ropen_any _ _ _ _ _ _ _ _ _ _ _ _ _).mono ?_; rintro e w3 ⟨rfl, hb3⟩; have HB3 : Hid (Below w.heap.size w w3) := HB2.out.1.trans (hb3.mono HB2.out.1.size); have r5 := bat hb3 HB2.out.2.ty.lt q5; have r6 := bat hb3 HB2.out.2.ty.lt q6; have rp := bat HB3.out hp hbc; have z6 := bat HB3.out hgl c6; have zf : ∀ o, w3.frozen? ⟨g, o, none⟩ = false := fun o => (HB3.out.frozen (p := ⟨g, o, none⟩) hgl).trans (hfz o); clear hb3))
        have hs1 : IntKind.i64.wrap ((k : Int) + 1 - 1) = (k : Int) := by rw [IntWalk.i64_in _ (by omega)]; omega
        have hs2 : ((k : Int)).toNat = k := by omega
        go_region
        all_goals
          go_wp2
          go_ret
          rw [E1.out]
          have hset := rbook_set (s' := ⟨i, ms, ow, se, cl, fr, tick, cp, hd⟩) HB.out HB3.out HOWN.out.1 HOWN.out.2.1 HOWN.out.2.2 HK.out rfl (row_until l k _ _ tick HK.out)
          exact ⟨rfl, _, hset.1, map_set _ _ _ _, ⟨hset.2.1.drew, hset.2.2.drew⟩⟩
    · have hlv' : openB fr un tick = false := by simpa using hlv
      clear hlv
      have E1 : Hid (endM (l.map Prod.fst) ((k : Int) + 1) pe tick = (20, l.map Prod.fst)) := by rw [Hid, E.out, if_neg (by simp [hm]), if_pos hlv']
      go_enter Try.func46, Try.ntmps46
      go_wp2_with (first | (go_at_call 61; refine (rmay_any _ _ _ _ _ _ _ _ _ _ _ _ _).mono ?_; rintro e w2 ⟨rfl, hb2⟩; have HB2 : Hid (Below w.heap.size w w2 ∧ Blk w2 w.heap.size 24 #[.int .i64 i, .slice A1 ms.length cp1, .string ow, .string se, .int .i64 cl, .int .i64 fr, .int .i64 un, .int .i64 cp, .int .i64 hd]) := ⟨(bel1 _ _).trans (hb2.mono (by simp)), (Blk.new _ _ _).below hb2⟩; obtain ⟨q0, q1, q2, q3, q4, q5, q6, q7, q8⟩ := HB2.out.2.nine; clear hb2) | (go_at_call 52; refine (ropen_any _ _ _ _ _ _ _ _ _ _ _ _ _).mono ?_; rintro e w3 ⟨rfl, hb3⟩; have HB3 : Hid (Below w.heap.size w w3) := HB2.out.1.trans (hb3.mono HB2.out.1.size); have r5 := bat hb3 HB2.out.2.ty.lt q5; have r6 := bat hb3 HB2.out.2.ty.lt q6; have rp := bat HB3.out hp hbc; have z6 := bat HB3.out hgl c6; have zf : ∀ o, w3.frozen? ⟨g, o, none⟩ = false := fun o => (HB3.out.frozen (p := ⟨g, o, none⟩) hgl).trans (hfz o); clear hb3))
      go_ret
      rw [E1.out]
      exact ⟨rfl, l, HB.out.below HB3.out, rfl, ⟨Fr.of_below HB3.out, FF.of_below (rlt HB.out) HB3.out⟩⟩
  · have hm' : mayB ow se pe = false := by simpa using hm
    clear hm
    have E1 : Hid (endM (l.map Prod.fst) ((k : Int) + 1) pe tick = (16, l.map Prod.fst)) := by rw [Hid, E.out, if_pos hm']
    go_enter Try.func46, Try.ntmps46
    go_wp2_with (first | (go_at_call 61; refine (rmay_any _ _ _ _ _ _ _ _ _ _ _ _ _).mono ?_; rintro e w2 ⟨rfl, hb2⟩; have HB2 : Hid (Below w.heap.size w w2 ∧ Blk w2 w.heap.size 24 #[.int .i64 i, .slice A1 ms.length cp1, .string ow, .string se, .int .i64 cl, .int .i64 fr, .int .i64 un, .int .i64 cp, .int .i64 hd]) := ⟨(bel1 _ _).trans (hb2.mono (by simp)), (Blk.new _ _ _).below hb2⟩; obtain ⟨q0, q1, q2, q3, q4, q5, q6, q7, q8⟩ := HB2.out.2.nine; clear hb2) | (go_at_call 52; refine (ropen_any _ _ _ _ _ _ _ _ _ _ _ _ _).mono ?_; rintro e w3 ⟨rfl, hb3⟩; have HB3 : Hid (Below w.heap.size w w3) := HB2.out.1.trans (hb3.mono HB2.out.1.size); have r5 := bat hb3 HB2.out.2.ty.lt q5; have r6 := bat hb3 HB2.out.2.ty.lt q6; have rp := bat HB3.out hp hbc; have z6 := bat HB3.out hgl c6; have zf : ∀ o, w3.frozen? ⟨g, o, none⟩ = false := fun o => (HB3.out.frozen (p := ⟨g, o, none⟩) hgl).trans (hfz o); clear hb3))
    go_ret
    rw [E1.out]
    exact ⟨rfl, l, HB.out.below HB2.out.1, rfl, ⟨Fr.of_below HB2.out.1, FF.of_below (rlt HB.out) HB2.out.1⟩⟩

theorem rend_any (p base : Nat) (l : List (Sil × Value)) (id tick : Int) (pe : ByteArray) (w : World) (h : RBookAt w base p l) (hl : l.length ≤ 10000) (h1 : -9223372036854775808 ≤ id) :
    Calls Try.prog 46 #[.pointer (some ⟨p, 0, none⟩), .int .i64 id, .string pe, .int .i64 tick] w (RRetBook w base p (.int .i64 (endM (l.map Prod.fst) id pe tick).1) (endM (l.map Prod.fst) id pe tick).2) := by
  by_cases ho : id < 1 ∨ (l.length : Int) < id
  · exact rend_out p base l id tick pe w h hl h1 ho
  · have hk : (id - 1).toNat < l.length := by omega
    have e : id = (((id - 1).toNat : Nat) : Int) + 1 := by omega
    rw [e]
    exact rend_in p base l (id - 1).toNat _ _ tick pe w h hl (List.getElem?_eq_getElem hk)

set_option maxHeartbeats 2000000 in
theorem rhide_any (p base : Nat) (l : List (Sil × Value)) (kd ve st sn : Int) (ru to_ : ByteArray) (A' : Option Addr) (n' c' : Nat) (ls : List Lab) (cls tick : Int) (w : World) (h : RBookAt w base p l) (hbase : base ≤ w.heap.size) (hl : l.length ≤ 10000) (hla : Labs w base (.slice A' n' c') ls) (hfit : ∀ s ∈ l.map Prod.fst, CapFit s) :
    Calls Try.prog 47 #[.pointer (some ⟨p, 0, none⟩), .agg #[.int .i64 kd, .string ru, .int .i64 ve, .slice A' n' c', .int .i64 st, .int .i64 sn, .string to_], .int .i64 cls, .int .i64 tick] w
      (RRetBook w base p (.tuple #[.int .i64 (hideM (l.map Prod.fst) ls cls tick).1.1, .bool (hideM (l.map Prod.fst) ls cls tick).1.2]) (hideM (l.map Prod.fst) ls cls tick).2) := by
  obtain ⟨A0, c0, hblk0, hown0, hss⟩ := h.form
  have hbc := hblk0.one
  have hp := hblk0.ty.lt
  obtain ⟨g, cap, hrow⟩ := h.row
  have HB := Lib.hid h
  have HS := Lib.hid hss
  have HLA := Lib.hid hla
  have HFIT := Lib.hid hfit
  have HROW := Lib.hid hrow
  clear h hss hown0 hla hfit hrow hblk0
  go_enter Try.func47, Try.ntmps47
  go_wp2
  go_loopw [10] (fun i wr => HideRel w l.length (l.map Prod.fst) ls cls tick #[.int .i64 kd, .string ru, .int .i64 ve, .slice A' n' c', .int .i64 st, .int .i64 sn, .string to_] i wr) (fun i _ => l.length - (intOf i).toNat)
  case atStart => exact ⟨0, Nat.zero_le _, rfl, bel1 _ _, Blk.new _ _ _, fun j x _ h => absurd h (by omega)⟩
  case round =>
    obtain ⟨k, hk, rfl, hbw, hpg, hno⟩ := hrel
    have hsz := hbw.size
    have hbp := bat hbw hp hbc
    by_cases hlt : k < l.length
    · obtain ⟨x, hx⟩ : ∃ x, l[k]? = some x := ⟨l[k]'hlt, List.getElem?_eq_getElem _⟩
      obtain ⟨s, mv⟩ := x
      obtain ⟨hblk, hg, hown⟩ := HROW.out (by omega)
      obtain ⟨b, off, hA, hb, ⟨d0, d1, d2, d3, d4, d5, d6, d7, d8⟩, hmx, hmo⟩ := (HS.out.below hbw).at_ k (s, mv) hx
      obtain rfl : A0 = some ⟨g, 0, none⟩ := by have := hblk.one; rw [hbc] at this; simp at this; exact this.1
      simp only [Option.some.injEq, Addr.mk.injEq, and_true] at hA
      obtain ⟨rfl, rfl⟩ := hA
      obtain ⟨A1, cp1, hmv⟩ := hmx.form
      simp only at hmv
      subst hmv
      have hcf := HFIT.out s (List.mem_map.2 ⟨_, List.mem_of_getElem? hx, rfl⟩)
      obtain ⟨e0, e1, e2, e3, e4, e5, e6⟩ := hpg.seven
      have hfz := (own_below hown hbw).frozenAt
      have hpl : w.heap.size < wr.heap.size := hpg.ty.lt
      have hpr : p < wr.heap.size := Nat.lt_of_lt_of_le hp hsz
      have hki : (k : Int) < (l.length : Int) := by omega
      have HX := Lib.hid hx
      have HXs : Hid ((l.map Prod.fst)[k]? = some s) := by rw [Hid, List.getElem?_map, hx]; rfl
      have HM := Lib.hid hmx
      have HOWN := Lib.hid (And.intro hblk (And.intro hg hown))
      have HR := Lib.hid (And.intro hbw (And.intro hpg hno))
      have HLr := Lib.hid (HLA.out.below hbw)
      clear hx hmx hmo hblk hg hown hbw hpg hno
      obtain ⟨hcf1, hcf2⟩ := hcf
      obtain ⟨i, ms, ow, se, cl, fr, un, cp, hd⟩ := s
      simp only [Nat.zero_add] at d0 d1 d2 d3 d4 d5 d6 d7 d8 hcf1 hcf2
      by_cases hq : coversB cl fr un cp hd ms ls cls tick = true
      · have hdc : hd < cp := by simp [coversB] at hq; omega
        have HN : Hid (hideM (l.map Prod.fst) ls cls tick = ((i, true), (l.map Prod.fst).set k ⟨i, ms, ow, se, cl, fr, un, cp, hd + 1⟩)) := hideM_yes HXs.out hq HR.out.2.2
        go_wp2
        go_region_held3 (fun w' => w'.cell? ⟨g, k * 9, none⟩ = some (.int .i64 i) ∧ w'.cell? ⟨g, k * 9 + 1, none⟩ = some (.slice A1 ms.length cp1) ∧ w'.cell? ⟨g, k * 9 + 2, none⟩ = some (.string ow) ∧ w'.cell? ⟨g, k * 9 + 3, none⟩ = some (.string se) ∧ w'.cell? ⟨g, k * 9 + 4, none⟩ = some (.int .i64 cl) ∧ w'.cell? ⟨g, k * 9 + 5, none⟩ = some (.int .i64 fr) ∧ w'.cell? ⟨g, k * 9 + 6, none⟩ = some (.int .i64 un) ∧ w'.cell? ⟨g, k * 9 + 7, none⟩ = some (.int .i64 cp) ∧ w'.cell? ⟨g, k * 9 + 8, none⟩ = some (.int .i64 hd) ∧ w'.cell? ⟨w.heap.size, 0, none⟩ = some (.int .i64 kd) ∧ w'.cell? ⟨w.heap.size, 1, none⟩ = some (.string ru) ∧ w'.cell? ⟨w.heap.size, 2, none⟩ = some (.int .i64 ve) ∧ w'.cell? ⟨w.heap.size, 3, none⟩ = some (.slice A' n' c') ∧ w'.cell? ⟨w.heap.size, 4, none⟩ = some (.int .i64 st) ∧ w'.cell? ⟨w.heap.size, 5, none⟩ = some (.int .i64 sn) ∧ w'.cell? ⟨w.heap.size, 6, none⟩ = some (.string to_) ∧ w'.cell? ⟨p, 0, none⟩ = some (.slice (some ⟨g, 0, none⟩) l.length c0))
          (first | go_keep | exact ⟨bat hb1 hb d0, bat hb1 hb d1, bat hb1 hb d2, bat hb1 hb d3, bat hb1 hb d4, bat hb1 hb d5, bat hb1 hb d6, bat hb1 hb d7, bat hb1 hb d8, bat hb1 hpl e0, bat hb1 hpl e1, bat hb1 hpl e2, bat hb1 hpl e3, bat hb1 hpl e4, bat hb1 hpl e5, bat hb1 hpl e6, bat hb1 hpr hbp⟩)
          (first | (go_at_call 18; refine (rcovers_any _ _ _ _ _ _ _ _ _ _ _ _ _ _ _ _ _ _ _ _ base ms ls _ _ _ (by exact HM.out) (by exact HLr.out)).mono ?_; rintro e w1 ⟨rfl, hb1⟩))
        have HB1 : Hid (Below w.heap.size w w1 ∧ Blk w1 w.heap.size 36 #[.int .i64 kd, .string ru, .int .i64 ve, .slice A' n' c', .int .i64 st, .int .i64 sn, .string to_]) := ⟨HR.out.1.drew.trans (hb1.mono hsz), Blk.below (w := wr.drew) HR.out.2.1 hb1⟩
        have f0 := bat hb1 hb d0
        have f8 := bat hb1 hb d8
        have fp := bat hb1 hpr hbp
        have ff : ∀ o, w1.frozen? ⟨g, o, none⟩ = false := fun o => (hb1.frozen (p := ⟨g, o, none⟩) hb).trans (hfz o)
        have hgl1 : g < w1.heap.size := Nat.lt_of_lt_of_le hb hb1.size
        clear hb1 d0 d1 d2 d3 d4 d5 d6 d7 d8 e0 e1 e2 e3 e4 e5 e6 hfz
        go_wp2
        go_ret2
        rw [HN.out]
        have hset := rbook_set (s' := ⟨i, ms, ow, se, cl, fr, un, cp, hd + 1⟩) HB.out HB1.out.1 HOWN.out.1 HOWN.out.2.1 HOWN.out.2.2 HX.out rfl (row_hidden l k _ _ (hd + 1) HX.out)
        exact ⟨rfl, _, hset.1, map_set _ _ _ _, hset.2⟩
      · have hq' : coversB cl fr un cp hd ms ls cls tick = false := by simpa using hq
        clear hq
        go_wp2
        go_region_held3 (fun w' => w'.cell? ⟨g, k * 9, none⟩ = some (.int .i64 i) ∧ w'.cell? ⟨g, k * 9 + 1, none⟩ = some (.slice A1 ms.length cp1) ∧ w'.cell? ⟨g, k * 9 + 2, none⟩ = some (.string ow) ∧ w'.cell? ⟨g, k * 9 + 3, none⟩ = some (.string se) ∧ w'.cell? ⟨g, k * 9 + 4, none⟩ = some (.int .i64 cl) ∧ w'.cell? ⟨g, k * 9 + 5, none⟩ = some (.int .i64 fr) ∧ w'.cell? ⟨g, k * 9 + 6, none⟩ = some (.int .i64 un) ∧ w'.cell? ⟨g, k * 9 + 7, none⟩ = some (.int .i64 cp) ∧ w'.cell? ⟨g, k * 9 + 8, none⟩ = some (.int .i64 hd) ∧ w'.cell? ⟨w.heap.size, 0, none⟩ = some (.int .i64 kd) ∧ w'.cell? ⟨w.heap.size, 1, none⟩ = some (.string ru) ∧ w'.cell? ⟨w.heap.size, 2, none⟩ = some (.int .i64 ve) ∧ w'.cell? ⟨w.heap.size, 3, none⟩ = some (.slice A' n' c') ∧ w'.cell? ⟨w.heap.size, 4, none⟩ = some (.int .i64 st) ∧ w'.cell? ⟨w.heap.size, 5, none⟩ = some (.int .i64 sn) ∧ w'.cell? ⟨w.heap.size, 6, none⟩ = some (.string to_) ∧ w'.cell? ⟨p, 0, none⟩ = some (.slice (some ⟨g, 0, none⟩) l.length c0))
          (first | go_keep | exact ⟨bat hb1 hb d0, bat hb1 hb d1, bat hb1 hb d2, bat hb1 hb d3, bat hb1 hb d4, bat hb1 hb d5, bat hb1 hb d6, bat hb1 hb d7, bat hb1 hb d8, bat hb1 hpl e0, bat hb1 hpl e1, bat hb1 hpl e2, bat hb1 hpl e3, bat hb1 hpl e4, bat hb1 hpl e5, bat hb1 hpl e6, bat hb1 hpr hbp⟩)
          (first | (go_at_call 18; refine (rcovers_any _ _ _ _ _ _ _ _ _ _ _ _ _ _ _ _ _ _ _ _ base ms ls _ _ _ (by exact HM.out) (by exact HLr.out)).mono ?_; rintro e w1 ⟨rfl, hb1⟩))
        have HB1 : Hid (Below w.heap.size w w1 ∧ Blk w1 w.heap.size 36 #[.int .i64 kd, .string ru, .int .i64 ve, .slice A' n' c', .int .i64 st, .int .i64 sn, .string to_]) := ⟨HR.out.1.drew.trans (hb1.mono hsz), Blk.below (w := wr.drew) HR.out.2.1 hb1⟩
        have f0 := bat hb1 hb d0
        have f8 := bat hb1 hb d8
        have fp := bat hb1 hpr hbp
        have ff : ∀ o, w1.frozen? ⟨g, o, none⟩ = false := fun o => (hb1.frozen (p := ⟨g, o, none⟩) hb).trans (hfz o)
        have hgl1 : g < w1.heap.size := Nat.lt_of_lt_of_le hb hb1.size
        clear hb1 d0 d1 d2 d3 d4 d5 d6 d7 d8 e0 e1 e2 e3 e4 e5 e6 hfz
        go_wp2
        go_roundw
        case rel => exact ⟨k + 1, by omega, by go_num, HB1.out.1, HB1.out.2, hide_next HXs.out hq' HR.out.2.2⟩
        case measure => simp [intOf]; omega
    · have HN : Hid (hideM (l.map Prod.fst) ls cls tick = ((0, false), l.map Prod.fst)) := hideM_no (fun j x hj => hno j x hj (by
        have := (List.getElem?_eq_some_iff.1 hj).1
        simp at this; omega))
      clear hno
      go_wp2
      go_ret2
      rw [HN.out]
      exact ⟨rfl, l, HB.out.below hbw, rfl, ⟨Fr.of_below hbw, FF.of_below (rlt HB.out) hbw⟩⟩


theorem ropen_eq (p base : Nat) (l : List (Sil × Value)) (s : Sil) (A : Option Addr) (n c : Nat) (tick : Int) (w : World) (sl : List Sil) (r1 r2 : Int) (sl' : List Sil) (h : RBookAt w base p l) (hbase : base ≤ w.heap.size) (hm : Mats w base (.slice A n c) s.ms) (hs : SilFit s) (hl : l.length ≤ 10000) (he : l.map Prod.fst = sl) (hM : openM sl s tick = ((r1, r2), sl')) :
    Calls Try.prog 33 #[.pointer (some ⟨p, 0, none⟩), .agg #[.int .i64 s.id, .slice A n c, .string s.ow, .string s.se, .int .i64 s.cl, .int .i64 s.fr, .int .i64 s.un, .int .i64 s.cp, .int .i64 s.hd], .int .i64 tick] w (RRetBook w base p (.tuple #[.int .i64 r1, .int .i64 r2]) sl') := by
  have := ropenb_any p base l s A n c tick w h hbase hm hs hl
  rw [he, hM] at this
  exact this
theorem rhide_eq (p base : Nat) (l : List (Sil × Value)) (kd ve st sn : Int) (ru to_ : ByteArray) (A' : Option Addr) (n' c' : Nat) (ls : List Lab) (cls tick : Int) (w : World) (sl : List Sil) (r1 : Int) (r2 : Bool) (sl' : List Sil) (h : RBookAt w base p l) (hbase : base ≤ w.heap.size) (hl : l.length ≤ 10000) (hla : Labs w base (.slice A' n' c') ls) (hfit : ∀ s ∈ sl, CapFit s) (he : l.map Prod.fst = sl) (hM : hideM sl ls cls tick = ((r1, r2), sl')) :
    Calls Try.prog 47 #[.pointer (some ⟨p, 0, none⟩), .agg #[.int .i64 kd, .string ru, .int .i64 ve, .slice A' n' c', .int .i64 st, .int .i64 sn, .string to_], .int .i64 cls, .int .i64 tick] w (RRetBook w base p (.tuple #[.int .i64 r1, .bool r2]) sl') := by
  have := rhide_any p base l kd ve st sn ru to_ A' n' c' ls cls tick w h hbase hl hla (by rw [he]; exact hfit)
  rw [he, hM] at this
  exact this
theorem rextend_eq (p base : Nat) (l : List (Sil × Value)) (id tick til : Int) (pe : ByteArray) (w : World) (sl : List Sil) (r : Int) (sl' : List Sil) (h : RBookAt w base p l) (hl : l.length ≤ 10000) (h1 : -9223372036854775808 ≤ id)
    (ht : 0 ≤ tick) (ht2 : tick ≤ 4611686018427387904) (hu1 : -4611686018427387904 ≤ til) (hu2 : til ≤ 4611686018427387904) (he : l.map Prod.fst = sl) (hM : extendM sl id pe tick til = (r, sl')) :
    Calls Try.prog 45 #[.pointer (some ⟨p, 0, none⟩), .int .i64 id, .string pe, .int .i64 tick, .int .i64 til] w (RRetBook w base p (.int .i64 r) sl') := by
  have := rextend_any p base l id tick til pe w h hl h1 ht ht2 hu1 hu2
  rw [he, hM] at this
  exact this
theorem rend_eq (p base : Nat) (l : List (Sil × Value)) (id tick : Int) (pe : ByteArray) (w : World) (sl : List Sil) (r : Int) (sl' : List Sil) (h : RBookAt w base p l) (hl : l.length ≤ 10000) (h1 : -9223372036854775808 ≤ id)
    (he : l.map Prod.fst = sl) (hM : endM sl id pe tick = (r, sl')) :
    Calls Try.prog 46 #[.pointer (some ⟨p, 0, none⟩), .int .i64 id, .string pe, .int .i64 tick] w (RRetBook w base p (.int .i64 r) sl') := by
  have := rend_any p base l id tick pe w h hl h1
  rw [he, hM] at this
  exact this

end Go.Proofs.Ytoafpajibeejlaa.F
