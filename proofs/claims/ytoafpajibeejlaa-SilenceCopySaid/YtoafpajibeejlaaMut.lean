/- New, find, Extend, End of a book. -/
import Derived.Test.YtoafpajibeejlaaOpen
set_option linter.unusedVariables false
set_option linter.unusedSimpArgs false
namespace Go.Proofs.Ytoafpajibeejlaa
open Go.RowKit

theorem new_any (w : World) : Calls Try.prog 19 #[] w fun e w' => e = .returned (.pointer (some ⟨w.heap.size, 0, none⟩)) ∧ w' = w.alloc (.cells #[.slice none 0 0] 77) := by
  go_enter Try.func19, Try.ntmps19
  go_wp2
  go_ret
  exact ⟨rfl, rfl⟩
theorem new_book (w : World) (base : Nat) (hb : base ≤ w.heap.size) : BookAt (w.alloc (.cells #[.slice none 0 0] 77)) base w.heap.size [] :=
  ⟨hb, _, Blk.new _ _ _, World.ownsRow_nil _ _ _ _, fun x hx => by simp at hx⟩

theorem flat_set {α : Type} (f : α → List Value) (size : Nat) (hf : ∀ x, (f x).length = size) (l : List α) (k j : Nat) (x y : α) (u : Value) (hk : l[k]? = some x) (hj : j < size) (hy : f y = (f x).set j u) :
    (l.flatMap f).set (k * size + j) u = (l.set k y).flatMap f := by
  induction l generalizing k with
  | nil => simp at hk
  | cons z r ih =>
    cases k with
    | zero =>
      simp at hk; subst hk
      rw [List.set_cons_zero, List.flatMap_cons, List.flatMap_cons, hy, Nat.zero_mul, Nat.zero_add, List.set_append_left _ _ (by rw [hf]; exact hj)]
    | succ k =>
      simp at hk
      rw [List.set_cons_succ, List.flatMap_cons, List.flatMap_cons, List.set_append_right _ _ (by rw [hf, Nat.succ_mul]; omega), hf]
      rw [show (k + 1) * size + j - size = k * size + j by rw [Nat.succ_mul]; omega, ih k hk]
theorem row_until (l : List (Sil × Value)) (k : Nat) (s : Sil) (mv : Value) (u : Int) (hk : l[k]? = some (s, mv)) : (rowCells l).set (k * 9 + 6) (.int .i64 u) = rowCells (l.set k ({ s with un := u }, mv)) :=
  flat_set silCells 9 (fun _ => rfl) l k 6 (s, mv) _ _ hk (by omega) rfl
theorem row_hidden (l : List (Sil × Value)) (k : Nat) (s : Sil) (mv : Value) (u : Int) (hk : l[k]? = some (s, mv)) : (rowCells l).set (k * 9 + 8) (.int .i64 u) = rowCells (l.set k ({ s with hd := u }, mv)) :=
  flat_set silCells 9 (fun _ => rfl) l k 8 (s, mv) _ _ hk (by omega) rfl

/-- which entry a person may change: the error, or the entry -/
def findE (l : List Sil) (id : Int) (p : ByteArray) : Int := if id < 1 ∨ (l.length : Int) < id then 9 else match l[(id - 1).toNat]? with
  | none => 9
  | some s => if mayB s.ow s.se p then 0 else 16

/-- what find returns: the error and a pointer -/
def RetFind (w : World) (g : Nat) (id er : Int) (e : Ending) (w' : World) : Prop :=
  (if er = 0 then e = .returned (.tuple #[.pointer (some ⟨g, (id - 1).toNat * 9, none⟩), .int .i64 0]) else e = .returned (.tuple #[.pointer none, .int .i64 er])) ∧ Below w.heap.size w w'

set_option maxHeartbeats 1000000 in
theorem find_any (p base g cap : Nat) (l : List (Sil × Value)) (id : Int) (pe : ByteArray) (w : World) (h : BookAt w base p l) (hl : l.length ≤ 10000) (hv : 1 ≤ id → id ≤ l.length → w.cell? ⟨p, 0, none⟩ = some (.slice (some ⟨g, 0, none⟩) l.length cap)) (h1 : -9223372036854775808 ≤ id) :
    Calls Try.prog 44 #[.pointer (some ⟨p, 0, none⟩), .int .i64 id, .string pe] w (RetFind w g id (findE (l.map Prod.fst) id pe)) := by
  obtain ⟨A0, c0, hbc, hbf, hp, hown, hss⟩ := h.form
  by_cases h0 : id < 1
  · have E : Hid (findE (l.map Prod.fst) id pe = 9) := if_pos (.inl h0)
    clear hss hown h
    go_enter Try.func44, Try.ntmps44
    go_wp2
    go_ret2
    rw [E.out]
    exact ⟨rfl, Below.refl _ _⟩
  by_cases h2 : (l.length : Int) < id
  · have E : Hid (findE (l.map Prod.fst) id pe = 9) := if_pos (.inr (by simpa using h2))
    clear hss hown h
    go_enter Try.func44, Try.ntmps44
    go_wp2
    go_ret2
    rw [E.out]
    exact ⟨rfl, Below.refl _ _⟩
  obtain ⟨k, hk⟩ : ∃ k : Nat, id = (k : Int) + 1 := ⟨(id - 1).toNat, by omega⟩
  have hkl : k < l.length := by omega
  have hv' := hv (by omega) (by omega)
  rw [hbc] at hv'
  simp only [Option.some.injEq, Value.slice.injEq] at hv'
  obtain ⟨rfl, _, rfl⟩ := hv'
  subst hk
  obtain ⟨x, hx⟩ : ∃ x, l[k]? = some x := ⟨l[k]'hkl, List.getElem?_eq_getElem _⟩
  obtain ⟨b, off, hA, hb, ⟨c0, c1, c2, c3, c4, c5, c6, c7, c8⟩, hmx, hmo⟩ := hss.at_ k x hx
  obtain ⟨s, mv⟩ := x
  obtain ⟨A1, cp1, hmv⟩ := hmx.form
  simp only at hmv
  subst hmv
  simp only [Option.some.injEq, Addr.mk.injEq, and_true] at hA
  obtain ⟨rfl, rfl⟩ := hA
  have E0 : findE (l.map Prod.fst) ((k : Int) + 1) pe = if mayB s.ow s.se pe then 0 else 16 := by
    unfold findE
    rw [if_neg (by simp; omega), show ((k : Int) + 1 - 1).toNat = k by omega]
    simp [hx]
  have E := Lib.hid E0
  obtain ⟨i, ms, ow, se, cl, fr, un, cp, hd⟩ := s
  simp only [Nat.zero_add] at c0 c1 c2 c3 c4 c5 c6 c7 c8
  clear hx hmx hmo hss hown h E0 hv
  by_cases hm : mayB ow se pe = true
  · go_enter Try.func44, Try.ntmps44
    go_wp2_with (go_at_call 60; refine (may_any _ _ _ _ _ _ _ _ _ _ _ _ _).mono ?_; rintro e w1 ⟨rfl, hb1⟩; have HB1 := Lib.hid hb1; clear hb1)
    go_ret2
    rw [E.out, if_pos hm]
    exact ⟨by rw [if_pos rfl, show ((k : Int) + 1 - 1).toNat = k by omega]; rfl, HB1.out⟩
  · have hm' : mayB ow se pe = false := by simpa using hm
    clear hm
    go_enter Try.func44, Try.ntmps44
    go_wp2_with (go_at_call 60; refine (may_any _ _ _ _ _ _ _ _ _ _ _ _ _).mono ?_; rintro e w1 ⟨rfl, hb1⟩; have HB1 := Lib.hid hb1; clear hb1)
    go_ret2
    rw [E.out, hm']
    exact ⟨rfl, HB1.out⟩

/-- Extend, on plain data -/
def extendM (l : List Sil) (id : Int) (p : ByteArray) (tick til : Int) : Int × List Sil :=
  if findE l id p ≠ 0 then (findE l id p, l) else match l[(id - 1).toNat]? with
  | none => (9, l)
  | some s => if livesB s.fr s.un tick = false then (20, l) else if til < s.un ∨ 1000 < til - tick ∨ 1048576 < til then (5, l) else (0, l.set (id - 1).toNat { s with un := til })
/-- End, on plain data -/
def endM (l : List Sil) (id : Int) (p : ByteArray) (tick : Int) : Int × List Sil :=
  if findE l id p ≠ 0 then (findE l id p, l) else match l[(id - 1).toNat]? with
  | none => (9, l)
  | some s => if openB s.fr s.un tick = false then (20, l) else (0, l.set (id - 1).toNat { s with un := max tick s.fr })

theorem find_zero {l : List (Sil × Value)} {id : Int} {pe : ByteArray} (h : findE (l.map Prod.fst) id pe = 0) : ∃ (k : Nat) (s : Sil) (mv : Value), id = (k : Int) + 1 ∧ l[k]? = some (s, mv) := by
  unfold findE at h
  split at h
  · cases h
  · next hn =>
    simp at hn
    have hk : (id - 1).toNat < l.length := by omega
    exact ⟨(id - 1).toNat, (l[(id - 1).toNat]'hk).1, (l[(id - 1).toNat]'hk).2, by omega, List.getElem?_eq_getElem hk⟩

/-- where the entries of a book lie, if there are some -/
theorem BookAt.row {w : World} {base p : Nat} {l : List (Sil × Value)} (h : BookAt w base p l) : ∃ g cap, (0 < l.length → Blk w p 77 #[.slice (some ⟨g, 0, none⟩) l.length cap] ∧ base ≤ g ∧ w.ownsRow base 82 9 (.slice (some ⟨g, 0, none⟩) l.length cap) l.length (rowCells l)) := by
  obtain ⟨_, sv, hh, hown, hok⟩ := h
  rcases Nat.eq_zero_or_pos l.length with h0 | h0
  · exact ⟨0, 0, fun h => by omega⟩
  · obtain ⟨g, cap, rfl, hg, _⟩ := hown.form h0
    exact ⟨g, cap, fun _ => ⟨hh, hg, hown⟩⟩

/-- one field of one entry is written -/
theorem book_set {w w1 : World} {base p g cap k j : Nat} {l : List (Sil × Value)} {s s' : Sil} {mv u : Value} (h : BookAt w base p l) (hb : Below w.heap.size w w1) (hblk : Blk w p 77 #[.slice (some ⟨g, 0, none⟩) l.length cap]) (hg : base ≤ g)
    (hown : w.ownsRow base 82 9 (.slice (some ⟨g, 0, none⟩) l.length cap) l.length (rowCells l)) (hk : l[k]? = some (s, mv)) (hms : s'.ms = s.ms) (hr : (rowCells l).set (k * 9 + j) u = rowCells (l.set k (s', mv))) :
    BookAt (w1.setCell ⟨g, k * 9 + j, none⟩ u) base p (l.set k (s', mv)) ∧ Fr base [77, 82] w (w1.setCell ⟨g, k * 9 + j, none⟩ u) := by
  have hown1 := own_below hown hb
  have f : Fr base [82] w1 (w1.setCell ⟨g, k * 9 + j, none⟩ u) := Fr.setAt (Fr.refl _ _ _) (own_ty hown1 g rfl).2 (by decide) hg _ _
  refine ⟨⟨h.1, _, (hblk.below hb).keep f (by decide), ?_, ?_⟩, (Fr.of_below hb).trans (f.more (by simp))⟩
  · have := (hown1.stored (k * 9 + j) u).1
    rw [hr] at this
    rw [List.length_set]
    exact this
  · obtain ⟨_, _, _, _, hok⟩ := h
    intro x hx
    rcases List.mem_or_eq_of_mem_set hx with hx | hx
    · exact (hok.below hb).keep f (by decide) x hx
    · subst hx
      have := (hok.below hb).keep f (by decide) (s, mv) (List.mem_of_getElem? hk)
      simp only [hms] at this ⊢
      exact this
theorem map_set (l : List (Sil × Value)) (k : Nat) (s : Sil) (mv : Value) : (l.set k (s, mv)).map Prod.fst = (l.map Prod.fst).set k s := by rw [List.map_set]

set_option maxHeartbeats 1000000 in
theorem extend_bad (p base : Nat) (l : List (Sil × Value)) (id tick til : Int) (pe : ByteArray) (w : World) (h : BookAt w base p l) (hl : l.length ≤ 10000) (h1 : -9223372036854775808 ≤ id) (hE : ¬ findE (l.map Prod.fst) id pe = 0) :
    Calls Try.prog 23 #[.pointer (some ⟨p, 0, none⟩), .int .i64 id, .string pe, .int .i64 tick, .int .i64 til] w (RetBook w base p (.int .i64 (extendM (l.map Prod.fst) id pe tick til).1) (extendM (l.map Prod.fst) id pe tick til).2) := by
  have E : Hid (extendM (l.map Prod.fst) id pe tick til = (findE (l.map Prod.fst) id pe, l.map Prod.fst)) := if_pos hE
  have hE' : (findE (l.map Prod.fst) id pe != 0) = true := by simpa using hE
  obtain ⟨g, cap, hrow⟩ := h.row
  have HF := Lib.hid (find_any p base g cap l id pe w h hl (fun a b => (hrow (by omega)).1.one) h1)
  have HB := Lib.hid h
  have HE := Lib.hid hE
  clear h hrow hE
  generalize findE (l.map Prod.fst) id pe = fe at *
  go_enter Try.func23, Try.ntmps23
  go_wp2_with (go_at_call 44; refine HF.out.mono ?_; rintro e w1 ⟨he, hb1⟩; rw [if_neg HE.out] at he; subst he; have HB1 := Lib.hid hb1; clear hb1)
  go_ret
  rw [E.out]
  exact ⟨rfl, l, HB.out.below HB1.out, rfl, Fr.of_below HB1.out⟩

set_option maxHeartbeats 1000000 in
theorem extend_good (p base : Nat) (l : List (Sil × Value)) (k : Nat) (s : Sil) (mv : Value) (tick til : Int) (pe : ByteArray) (w : World) (h : BookAt w base p l) (hl : l.length ≤ 10000) (hk : l[k]? = some (s, mv)) (hE : findE (l.map Prod.fst) ((k : Int) + 1) pe = 0)
    (ht : 0 ≤ tick) (ht2 : tick ≤ 4611686018427387904) (hu1 : -4611686018427387904 ≤ til) (hu2 : til ≤ 4611686018427387904) :
    Calls Try.prog 23 #[.pointer (some ⟨p, 0, none⟩), .int .i64 ((k : Int) + 1), .string pe, .int .i64 tick, .int .i64 til] w (RetBook w base p (.int .i64 (extendM (l.map Prod.fst) ((k : Int) + 1) pe tick til).1) (extendM (l.map Prod.fst) ((k : Int) + 1) pe tick til).2) := by
  have hkl : k < l.length := (List.getElem?_eq_some_iff.1 hk).1
  have E0 : extendM (l.map Prod.fst) ((k : Int) + 1) pe tick til = if livesB s.fr s.un tick = false then (20, l.map Prod.fst) else if til < s.un ∨ 1000 < til - tick ∨ 1048576 < til then (5, l.map Prod.fst) else (0, (l.map Prod.fst).set k { s with un := til }) := by
    unfold extendM
    rw [if_neg (by simp [hE]), show ((k : Int) + 1 - 1).toNat = k by omega]
    simp [hk]
  have E := Lib.hid E0
  obtain ⟨g, cap, hrow⟩ := h.row
  obtain ⟨hblk, hg, hown⟩ := hrow (by omega)
  have HF := Lib.hid (find_any p base g cap l ((k : Int) + 1) pe w h hl (fun a b => hblk.one) (by omega))
  have hA : At9 w g (k * 9) s mv := by
    have := row_at (w := w) (b := g) (off := 0) hk (fun j u hu => by
      have hj : j < l.length * 9 := by rw [← rowCells_len]; exact (List.getElem?_eq_some_iff.1 hu).1
      rw [Nat.zero_add, hown.cellAt j hj, hu])
    simpa using this
  obtain ⟨c0, c1, c2, c3, c4, c5, c6, c7, c8⟩ := hA
  have hfz := hown.frozenAt
  have hgl : g < w.heap.size := (own_ty hown g rfl).2.lt
  have hmx := (h.form).choose_spec.choose_spec.2.2.2.2.2 (s, mv) (List.mem_of_getElem? hk)
  obtain ⟨A1, cp1, hmv⟩ := hmx.1.form
  simp only at hmv
  subst hmv
  have HB := Lib.hid h
  have HK := Lib.hid hk
  have HOWN := Lib.hid (And.intro hblk (And.intro hg hown))
  have HE := Lib.hid hE
  clear h hrow hE hblk hg hown hk hmx E0
  obtain ⟨i, ms, ow, se, cl, fr, un, cp, hd⟩ := s
  simp only at c0 c1 c2 c3 c4 c5 c6 c7 c8
  by_cases hlv : livesB fr un tick = true
  · by_cases hr : til < un ∨ 1000 < til - tick ∨ 1048576 < til
    · have E1 : Hid (extendM (l.map Prod.fst) ((k : Int) + 1) pe tick til = (5, l.map Prod.fst)) := by rw [Hid, E.out, if_neg (by simp [hlv]), if_pos hr]
      go_enter Try.func23, Try.ntmps23
      go_wp2_with (first | (go_at_call 44; refine HF.out.mono ?_; rintro e w1 ⟨he, hb1⟩; rw [if_pos HE.out, show ((k : Int) + 1 - 1).toNat = k by omega] at he; subst he; obtain ⟨hc1, hf1⟩ := bcell hb1; have hz1 := hb1.size; have hgl1 : g < w1.heap.size := Nat.lt_of_lt_of_le hgl hz1; have HB1 := Lib.hid hb1; clear hb1) | (go_at_call 35; refine (lives_any _ _ _ _ _ _ _ _ _ _ _ _ _).mono ?_; rintro e w2 ⟨rfl, hb2⟩; obtain ⟨hc2, hf2⟩ := bcell hb2; have HB2 : Hid (Below w.heap.size w w2) := HB1.out.trans (hb2.mono HB1.out.size); clear hb2))
      all_goals
        go_ret
        rw [E1.out]
        exact ⟨rfl, l, HB.out.below HB2.out, rfl, Fr.of_below HB2.out⟩
    · have E1 : Hid (extendM (l.map Prod.fst) ((k : Int) + 1) pe tick til = (0, (l.map Prod.fst).set k ⟨i, ms, ow, se, cl, fr, til, cp, hd⟩)) := by rw [Hid, E.out, if_neg (by simp [hlv]), if_neg hr]
      have hr1 : un ≤ til := by omega
      have hr2 : til - tick ≤ 1000 := by omega
      have hr3 : til ≤ 1048576 := by omega
      clear hr
      go_enter Try.func23, Try.ntmps23
      go_wp2_with (first | (go_at_call 44; refine HF.out.mono ?_; rintro e w1 ⟨he, hb1⟩; rw [if_pos HE.out, show ((k : Int) + 1 - 1).toNat = k by omega] at he; subst he; obtain ⟨hc1, hf1⟩ := bcell hb1; have hz1 := hb1.size; have hgl1 : g < w1.heap.size := Nat.lt_of_lt_of_le hgl hz1; have HB1 := Lib.hid hb1; clear hb1) | (go_at_call 35; refine (lives_any _ _ _ _ _ _ _ _ _ _ _ _ _).mono ?_; rintro e w2 ⟨rfl, hb2⟩; obtain ⟨hc2, hf2⟩ := bcell hb2; have HB2 : Hid (Below w.heap.size w w2) := HB1.out.trans (hb2.mono HB1.out.size); clear hb2))
      go_ret
      rw [E1.out]
      have hset := book_set (s' := ⟨i, ms, ow, se, cl, fr, til, cp, hd⟩) HB.out HB2.out HOWN.out.1 HOWN.out.2.1 HOWN.out.2.2 HK.out rfl (row_until l k _ _ til HK.out)
      exact ⟨rfl, _, hset.1, map_set _ _ _ _, hset.2⟩
  · have hlv' : livesB fr un tick = false := by simpa using hlv
    clear hlv
    have E1 : Hid (extendM (l.map Prod.fst) ((k : Int) + 1) pe tick til = (20, l.map Prod.fst)) := by rw [Hid, E.out, if_pos hlv']
    go_enter Try.func23, Try.ntmps23
    go_wp2_with (first | (go_at_call 44; refine HF.out.mono ?_; rintro e w1 ⟨he, hb1⟩; rw [if_pos HE.out, show ((k : Int) + 1 - 1).toNat = k by omega] at he; subst he; obtain ⟨hc1, hf1⟩ := bcell hb1; have hz1 := hb1.size; have hgl1 : g < w1.heap.size := Nat.lt_of_lt_of_le hgl hz1; have HB1 := Lib.hid hb1; clear hb1) | (go_at_call 35; refine (lives_any _ _ _ _ _ _ _ _ _ _ _ _ _).mono ?_; rintro e w2 ⟨rfl, hb2⟩; obtain ⟨hc2, hf2⟩ := bcell hb2; have HB2 : Hid (Below w.heap.size w w2) := HB1.out.trans (hb2.mono HB1.out.size); clear hb2))
    go_ret
    rw [E1.out]
    exact ⟨rfl, l, HB.out.below HB2.out, rfl, Fr.of_below HB2.out⟩

theorem extend_any (p base : Nat) (l : List (Sil × Value)) (id tick til : Int) (pe : ByteArray) (w : World) (h : BookAt w base p l) (hl : l.length ≤ 10000) (h1 : -9223372036854775808 ≤ id)
    (ht : 0 ≤ tick) (ht2 : tick ≤ 4611686018427387904) (hu1 : -4611686018427387904 ≤ til) (hu2 : til ≤ 4611686018427387904) :
    Calls Try.prog 23 #[.pointer (some ⟨p, 0, none⟩), .int .i64 id, .string pe, .int .i64 tick, .int .i64 til] w (RetBook w base p (.int .i64 (extendM (l.map Prod.fst) id pe tick til).1) (extendM (l.map Prod.fst) id pe tick til).2) := by
  by_cases hE : findE (l.map Prod.fst) id pe = 0
  · obtain ⟨k, s, mv, rfl, hk⟩ := find_zero hE
    exact extend_good p base l k s mv tick til pe w h hl hk hE ht ht2 hu1 hu2
  · exact extend_bad p base l id tick til pe w h hl h1 hE

set_option maxHeartbeats 1000000 in
theorem end_bad (p base : Nat) (l : List (Sil × Value)) (id tick : Int) (pe : ByteArray) (w : World) (h : BookAt w base p l) (hl : l.length ≤ 10000) (h1 : -9223372036854775808 ≤ id) (hE : ¬ findE (l.map Prod.fst) id pe = 0) :
    Calls Try.prog 28 #[.pointer (some ⟨p, 0, none⟩), .int .i64 id, .string pe, .int .i64 tick] w (RetBook w base p (.int .i64 (endM (l.map Prod.fst) id pe tick).1) (endM (l.map Prod.fst) id pe tick).2) := by
  have E : Hid (endM (l.map Prod.fst) id pe tick = (findE (l.map Prod.fst) id pe, l.map Prod.fst)) := if_pos hE
  have hE' : (findE (l.map Prod.fst) id pe != 0) = true := by simpa using hE
  obtain ⟨g, cap, hrow⟩ := h.row
  have HF := Lib.hid (find_any p base g cap l id pe w h hl (fun a b => (hrow (by omega)).1.one) h1)
  have HB := Lib.hid h
  have HE := Lib.hid hE
  clear h hrow hE
  generalize findE (l.map Prod.fst) id pe = fe at *
  go_enter Try.func28, Try.ntmps28
  go_wp2_with (go_at_call 44; refine HF.out.mono ?_; rintro e w1 ⟨he, hb1⟩; rw [if_neg HE.out] at he; subst he; have HB1 := Lib.hid hb1; clear hb1)
  go_ret
  rw [E.out]
  exact ⟨rfl, l, HB.out.below HB1.out, rfl, Fr.of_below HB1.out⟩

set_option maxHeartbeats 1000000 in
theorem end_good (p base : Nat) (l : List (Sil × Value)) (k : Nat) (s : Sil) (mv : Value) (tick : Int) (pe : ByteArray) (w : World) (h : BookAt w base p l) (hl : l.length ≤ 10000) (hk : l[k]? = some (s, mv)) (hE : findE (l.map Prod.fst) ((k : Int) + 1) pe = 0) :
    Calls Try.prog 28 #[.pointer (some ⟨p, 0, none⟩), .int .i64 ((k : Int) + 1), .string pe, .int .i64 tick] w (RetBook w base p (.int .i64 (endM (l.map Prod.fst) ((k : Int) + 1) pe tick).1) (endM (l.map Prod.fst) ((k : Int) + 1) pe tick).2) := by
  have hkl : k < l.length := (List.getElem?_eq_some_iff.1 hk).1
  have E0 : endM (l.map Prod.fst) ((k : Int) + 1) pe tick = if openB s.fr s.un tick = false then (20, l.map Prod.fst) else (0, (l.map Prod.fst).set k { s with un := max tick s.fr }) := by
    unfold endM
    rw [if_neg (by simp [hE]), show ((k : Int) + 1 - 1).toNat = k by omega]
    simp [hk]
  have E := Lib.hid E0
  obtain ⟨g, cap, hrow⟩ := h.row
  obtain ⟨hblk, hg, hown⟩ := hrow (by omega)
  have HF := Lib.hid (find_any p base g cap l ((k : Int) + 1) pe w h hl (fun a b => hblk.one) (by omega))
  have hA : At9 w g (k * 9) s mv := by
    have := row_at (w := w) (b := g) (off := 0) hk (fun j u hu => by
      have hj : j < l.length * 9 := by rw [← rowCells_len]; exact (List.getElem?_eq_some_iff.1 hu).1
      rw [Nat.zero_add, hown.cellAt j hj, hu])
    simpa using this
  obtain ⟨c0, c1, c2, c3, c4, c5, c6, c7, c8⟩ := hA
  have hfz := hown.frozenAt
  have hgl : g < w.heap.size := (own_ty hown g rfl).2.lt
  have hmx := (h.form).choose_spec.choose_spec.2.2.2.2.2 (s, mv) (List.mem_of_getElem? hk)
  obtain ⟨A1, cp1, hmv⟩ := hmx.1.form
  simp only at hmv
  subst hmv
  have HB := Lib.hid h
  have HK := Lib.hid hk
  have HOWN := Lib.hid (And.intro hblk (And.intro hg hown))
  have HE := Lib.hid hE
  clear h hrow hE hblk hg hown hk hmx E0
  obtain ⟨i, ms, ow, se, cl, fr, un, cp, hd⟩ := s
  simp only at c0 c1 c2 c3 c4 c5 c6 c7 c8
  by_cases hlv : openB fr un tick = true
  · rcases Int.lt_or_le tick fr with hc | hc
    · have E1 : Hid (endM (l.map Prod.fst) ((k : Int) + 1) pe tick = (0, (l.map Prod.fst).set k ⟨i, ms, ow, se, cl, fr, fr, cp, hd⟩)) := by rw [Hid, E.out, if_neg (by simp [hlv])]; simp only; rw [show max tick fr = fr by omega]
      go_enter Try.func28, Try.ntmps28
      go_wp2_with (first | (go_at_call 44; refine HF.out.mono ?_; rintro e w1 ⟨he, hb1⟩; rw [if_pos HE.out, show ((k : Int) + 1 - 1).toNat = k by omega] at he; subst he; obtain ⟨hc1, hf1⟩ := bcell hb1; have hz1 := hb1.size; have hgl1 : g < w1.heap.size := Nat.lt_of_lt_of_le hgl hz1; have HB1 := Lib.hid hb1; clear hb1) | (go_at_call 41; refine (open_any _ _ _ _ _ _ _ _ _ _ _ _ _).mono ?_; rintro e w2 ⟨rfl, hb2⟩; obtain ⟨hc2, hf2⟩ := bcell hb2; have HB2 : Hid (Below w.heap.size w w2) := HB1.out.trans (hb2.mono HB1.out.size); clear hb2))
      go_ret
      rw [E1.out]
      have hset := book_set (s' := ⟨i, ms, ow, se, cl, fr, fr, cp, hd⟩) HB.out HB2.out HOWN.out.1 HOWN.out.2.1 HOWN.out.2.2 HK.out rfl (row_until l k _ _ fr HK.out)
      exact ⟨rfl, _, hset.1, map_set _ _ _ _, hset.2⟩
    · have E1 : Hid (endM (l.map Prod.fst) ((k : Int) + 1) pe tick = (0, (l.map Prod.fst).set k ⟨i, ms, ow, se, cl, fr, tick, cp, hd⟩)) := by rw [Hid, E.out, if_neg (by simp [hlv])]; simp only; rw [show max tick fr = tick by omega]
      go_enter Try.func28, Try.ntmps28
      go_wp2_with (first | (go_at_call 44; refine HF.out.mono ?_; rintro e w1 ⟨he, hb1⟩; rw [if_pos HE.out, show ((k : Int) + 1 - 1).toNat = k by omega] at he; subst he; obtain ⟨hc1, hf1⟩ := bcell hb1; have hz1 := hb1.size; have hgl1 : g < w1.heap.size := Nat.lt_of_lt_of_le hgl hz1; have HB1 := Lib.hid hb1; clear hb1) | (go_at_call 41; refine (open_any _ _ _ _ _ _ _ _ _ _ _ _ _).mono ?_; rintro e w2 ⟨rfl, hb2⟩; obtain ⟨hc2, hf2⟩ := bcell hb2; have HB2 : Hid (Below w.heap.size w w2) := HB1.out.trans (hb2.mono HB1.out.size); clear hb2))
      go_ret
      rw [E1.out]
      have hset := book_set (s' := ⟨i, ms, ow, se, cl, fr, tick, cp, hd⟩) HB.out HB2.out HOWN.out.1 HOWN.out.2.1 HOWN.out.2.2 HK.out rfl (row_until l k _ _ tick HK.out)
      exact ⟨rfl, _, hset.1, map_set _ _ _ _, hset.2⟩
  · have hlv' : openB fr un tick = false := by simpa using hlv
    clear hlv
    have E1 : Hid (endM (l.map Prod.fst) ((k : Int) + 1) pe tick = (20, l.map Prod.fst)) := by rw [Hid, E.out, if_pos hlv']
    go_enter Try.func28, Try.ntmps28
    go_wp2_with (first | (go_at_call 44; refine HF.out.mono ?_; rintro e w1 ⟨he, hb1⟩; rw [if_pos HE.out, show ((k : Int) + 1 - 1).toNat = k by omega] at he; subst he; obtain ⟨hc1, hf1⟩ := bcell hb1; have hz1 := hb1.size; have hgl1 : g < w1.heap.size := Nat.lt_of_lt_of_le hgl hz1; have HB1 := Lib.hid hb1; clear hb1) | (go_at_call 41; refine (open_any _ _ _ _ _ _ _ _ _ _ _ _ _).mono ?_; rintro e w2 ⟨rfl, hb2⟩; obtain ⟨hc2, hf2⟩ := bcell hb2; have HB2 : Hid (Below w.heap.size w w2) := HB1.out.trans (hb2.mono HB1.out.size); clear hb2))
    go_ret
    rw [E1.out]
    exact ⟨rfl, l, HB.out.below HB2.out, rfl, Fr.of_below HB2.out⟩

theorem end_any (p base : Nat) (l : List (Sil × Value)) (id tick : Int) (pe : ByteArray) (w : World) (h : BookAt w base p l) (hl : l.length ≤ 10000) (h1 : -9223372036854775808 ≤ id) :
    Calls Try.prog 28 #[.pointer (some ⟨p, 0, none⟩), .int .i64 id, .string pe, .int .i64 tick] w (RetBook w base p (.int .i64 (endM (l.map Prod.fst) id pe tick).1) (endM (l.map Prod.fst) id pe tick).2) := by
  by_cases hE : findE (l.map Prod.fst) id pe = 0
  · obtain ⟨k, s, mv, rfl, hk⟩ := find_zero hE
    exact end_good p base l k s mv tick pe w h hl hk hE
  · exact end_bad p base l id tick pe w h hl h1 hE
end Go.Proofs.Ytoafpajibeejlaa
