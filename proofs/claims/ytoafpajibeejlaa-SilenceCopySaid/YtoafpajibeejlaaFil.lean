/- filter: the entries of a book that have a property. -/
import Derived.Test.YtoafpajibeejlaaAll
set_option linter.unusedVariables false
set_option linter.unusedSimpArgs false
namespace Go.Proofs.Ytoafpajibeejlaa
open Go.RowKit

theorem entInfo : (Try.prog.info? 82).map (fun i => (i.zero, i.size, i.bytes)) = some (some (.agg #[.int .i64 0, .slice none 0 0, .string ⟨#[]⟩, .string ⟨#[]⟩, .int .i64 0, .int .i64 0, .int .i64 0, .int .i64 0, .int .i64 0]), 9, 104) := by kernel_rfl

def FilRel (w : World) (n base : Nat) (p : Sil → Bool) (l : List (Sil × Value)) (v i : Value) (wr : World) : Prop :=
  ∃ (k : Nat) (l' : List (Sil × Value)), k ≤ n ∧ i = .int .i64 k ∧ l' = (l.take k).filter (fun x => p x.1) ∧ l'.length ≤ k ∧ wr.ownsRow w.heap.size 82 9 v l'.length (rowCells l') ∧ SilsOk wr base l' ∧ Below w.heap.size w wr

/-- the entries with a property, in new memory, are returned -/
def RetEnts (w : World) (base : Nat) (l : List (Sil × Value)) (e : Ending) (w' : World) : Prop :=
  ∃ A c, e = .returned (.slice A l.length c) ∧ w'.ownsRow w.heap.size 82 9 (.slice A l.length c) l.length (rowCells l) ∧ SilsOk w' base l ∧ Below w.heap.size w w'

theorem fil_yes {l : List (Sil × Value)} {p : Sil → Bool} {k : Nat} {x : Sil × Value} (hk : l[k]? = some x) (h : p x.1 = true) : (l.take (k + 1)).filter (fun x => p x.1) = (l.take k).filter (fun x => p x.1) ++ [x] := by
  rw [List.take_add_one, hk, List.filter_append]
  simp [h]
theorem fil_no {l : List (Sil × Value)} {p : Sil → Bool} {k : Nat} {x : Sil × Value} (hk : l[k]? = some x) (h : p x.1 = false) : (l.take (k + 1)).filter (fun x => p x.1) = (l.take k).filter (fun x => p x.1) := by
  rw [List.take_add_one, hk, List.filter_append]
  simp [h]


set_option maxHeartbeats 1000000 in
theorem filter_open (nm : String) (p base : Nat) (l : List (Sil × Value)) (tick : Int) (w : World) (h : BookAt w base p l) (hn : l.length ≤ 100000) (hbase : base ≤ w.heap.size)
    (hm : ∀ (f : Nat) (W : World) (v0 v1 v2 v3 v4 v5 v6 v7 v8 : Value), (method (f + 1) 82 (.agg #[v0, v1, v2, v3, v4, v5, v6, v7, v8]) nm).run Try.prog W = .ok (41, .agg #[v0, v1, v2, v3, v4, v5, v6, v7, v8]) W) :
    Calls Try.prog 40 #[.pointer (some ⟨p, 0, none⟩), .func (Fn.methodOf 82 nm) #[] #[], .int .i64 tick] w (RetEnts w base (l.filter (fun x => openB x.1.fr x.1.un tick))) := by
  obtain ⟨A, c, hc, hf, hp, hown, hs⟩ := h.form
  obtain ⟨i0, hi, hz0, hz1, hz2⟩ := info_parts entInfo
  have HS := Lib.hid hs
  clear hs hown h
  go_enter Try.func40, Try.ntmps40
  go_wp2
  go_loopw [7, 15] (fun v i wr => FilRel w l.length base (fun s => openB s.fr s.un tick) l v i wr) (fun _ i _ => l.length - (intOf i).toNat)
  case atStart => exact ⟨0, [], Nat.zero_le _, rfl, by simp, by simp, World.ownsRow_nil _ _ _ _, fun x hx => by simp at hx, Below.refl _ _⟩
  case round =>
    obtain ⟨k, l', hk, rfl, hl', hlen, hown, hok, hbw⟩ := hrel
    have hsz := hbw.size
    by_cases hlt : k < l.length
    · obtain ⟨x, hx⟩ : ∃ x, l[k]? = some x := ⟨l[k]'hlt, List.getElem?_eq_getElem _⟩
      obtain ⟨b, off, rfl, hb, ⟨c0, c1, c2, c3, c4, c5, c6, c7, c8⟩, hmx, hmo⟩ := (HS.out.below hbw).at_ k x hx
      obtain ⟨s, mv⟩ := x
      obtain ⟨A1, cp1, hmv⟩ := hmx.form
      simp only at hmv
      subst hmv
      have HX := Lib.hid hx
      have HM := Lib.hid hmx
      have HO := Lib.hid hmo
      have HR : Hid (l' = (l.take k).filter (fun x => openB x.1.fr x.1.un tick) ∧ wr.ownsRow w.heap.size 82 9 u7 l'.length (rowCells l') ∧ SilsOk wr base l' ∧ Below w.heap.size w wr) := ⟨hl', hown, hok, hbw⟩
      clear hx hmx hmo hl' hown hok hbw
      obtain ⟨id, ms, ow, se, cl, fr, un, cp, hd⟩ := s
      simp only at c0 c1 c2 c3 c4 c5 c6 c7 c8
      by_cases hq : openB fr un tick = true
      · go_wp2_with (first | (go_at_call 41; refine (open_any _ _ _ _ _ _ _ _ _ _ _ _ _).mono ?_; rintro e w2 ⟨rfl, hb2⟩; obtain ⟨hc2, hf2⟩ := bcell hb2; have hz2' := hb2.size; have HB2 := Lib.hid hb2; clear hb2) | (at_builtin; refine wpList_append_own_at _ rfl _ _ 75 rfl w.heap.size 82 i0 _ 9 104 Try.underlying75 hi hz0 hz1 hz2 rfl (by decide) _ l'.length (rowCells l') rfl (by exact (own_below (HR.out.2.1.alloc _) HB2.out).alloc _) ⟨w2.heap.size, 0, none⟩ 1 1 (silCells (⟨id, ms, ow, se, cl, fr, un, cp, hd⟩, .slice A1 ms.length cp1)) rfl rfl (cells9 _ _ _ _ _ _ _ _ _ _ _) (silCells_one _ _ _ _) (by simp only [maxLen]; omega) (by omega) (by simp at hz2'; simp; omega) ?_; intro v' w3 hown3 hg3 _ hat3))
        have HF : Hid (SilsOk w3 base (l' ++ [(⟨id, ms, ow, se, cl, fr, un, cp, hd⟩, .slice A1 ms.length cp1)]) ∧ Below w.heap.size w w3) := grow_next hbase rfl HR.out.2.1 HR.out.2.2.1 HR.out.2.2.2 HB2.out ((HM.out.below (bel1 _ _)).below HB2.out) HO.out hg3 (by decide)
        have HOW : Hid (w3.ownsRow w.heap.size 82 9 v' (l' ++ [((⟨id, ms, ow, se, cl, fr, un, cp, hd⟩ : Sil), (.slice A1 ms.length cp1 : Value))]).length (rowCells (l' ++ [(⟨id, ms, ow, se, cl, fr, un, cp, hd⟩, .slice A1 ms.length cp1)]))) := by rw [Hid, rowCells_snoc, List.length_append]; exact hown3
        clear hown3 hg3 hat3
        go_roundw
        case rel => exact ⟨k + 1, _, by omega, by go_num, by rw [fil_yes (p := fun s => openB s.fr s.un tick) HX.out hq, ← HR.out.1], by simp; omega, HOW.out, HF.out.1, HF.out.2⟩
        case measure => simp [intOf]; omega
      · have hq' : openB fr un tick = false := by simpa using hq
        clear hq
        go_wp2_with (go_at_call 41; refine (open_any _ _ _ _ _ _ _ _ _ _ _ _ _).mono ?_; rintro e w2 ⟨rfl, hb2⟩; obtain ⟨hc2, hf2⟩ := bcell hb2; have hz2' := hb2.size; have HB2 := Lib.hid hb2; clear hb2)
        go_roundw
        case rel => exact ⟨k + 1, l', by omega, by go_num, by rw [fil_no (p := fun s => openB s.fr s.un tick) HX.out hq', ← HR.out.1], by omega, own_below (HR.out.2.1.alloc _) HB2.out, (HR.out.2.2.1.below (bel1 _ _)).below HB2.out, (HR.out.2.2.2.alloc HR.out.2.2.2.size _).trans (HB2.out.mono (by simp; omega))⟩
        case measure => simp [intOf]; omega
    · obtain ⟨A2, c2, hv2⟩ := own_form hown
      have HV := Lib.hid hv2
      have HL' : Hid (l' = l.filter (fun x => openB x.1.fr x.1.un tick)) := by rw [Hid, hl', List.take_of_length_le (by omega)]
      clear hv2 hl'
      go_wp2
      go_ret
      refine ⟨A2, c2, ?_, ?_, ?_, hbw⟩
      · rw [← HL'.out]; exact congrArg Ending.returned HV.out
      · rw [← HL'.out, ← HV.out]; exact hown
      · rw [← HL'.out]; exact hok

set_option maxHeartbeats 1000000 in
theorem filter_lives (nm : String) (p base : Nat) (l : List (Sil × Value)) (tick : Int) (w : World) (h : BookAt w base p l) (hn : l.length ≤ 100000) (hbase : base ≤ w.heap.size)
    (hm : ∀ (f : Nat) (W : World) (v0 v1 v2 v3 v4 v5 v6 v7 v8 : Value), (method (f + 1) 82 (.agg #[v0, v1, v2, v3, v4, v5, v6, v7, v8]) nm).run Try.prog W = .ok (35, .agg #[v0, v1, v2, v3, v4, v5, v6, v7, v8]) W) :
    Calls Try.prog 40 #[.pointer (some ⟨p, 0, none⟩), .func (Fn.methodOf 82 nm) #[] #[], .int .i64 tick] w (RetEnts w base (l.filter (fun x => livesB x.1.fr x.1.un tick))) := by
  obtain ⟨A, c, hc, hf, hp, hown, hs⟩ := h.form
  obtain ⟨i0, hi, hz0, hz1, hz2⟩ := info_parts entInfo
  have HS := Lib.hid hs
  clear hs hown h
  go_enter Try.func40, Try.ntmps40
  go_wp2
  go_loopw [7, 15] (fun v i wr => FilRel w l.length base (fun s => livesB s.fr s.un tick) l v i wr) (fun _ i _ => l.length - (intOf i).toNat)
  case atStart => exact ⟨0, [], Nat.zero_le _, rfl, by simp, by simp, World.ownsRow_nil _ _ _ _, fun x hx => by simp at hx, Below.refl _ _⟩
  case round =>
    obtain ⟨k, l', hk, rfl, hl', hlen, hown, hok, hbw⟩ := hrel
    have hsz := hbw.size
    by_cases hlt : k < l.length
    · obtain ⟨x, hx⟩ : ∃ x, l[k]? = some x := ⟨l[k]'hlt, List.getElem?_eq_getElem _⟩
      obtain ⟨b, off, rfl, hb, ⟨c0, c1, c2, c3, c4, c5, c6, c7, c8⟩, hmx, hmo⟩ := (HS.out.below hbw).at_ k x hx
      obtain ⟨s, mv⟩ := x
      obtain ⟨A1, cp1, hmv⟩ := hmx.form
      simp only at hmv
      subst hmv
      have HX := Lib.hid hx
      have HM := Lib.hid hmx
      have HO := Lib.hid hmo
      have HR : Hid (l' = (l.take k).filter (fun x => livesB x.1.fr x.1.un tick) ∧ wr.ownsRow w.heap.size 82 9 u7 l'.length (rowCells l') ∧ SilsOk wr base l' ∧ Below w.heap.size w wr) := ⟨hl', hown, hok, hbw⟩
      clear hx hmx hmo hl' hown hok hbw
      obtain ⟨id, ms, ow, se, cl, fr, un, cp, hd⟩ := s
      simp only at c0 c1 c2 c3 c4 c5 c6 c7 c8
      by_cases hq : livesB fr un tick = true
      · go_wp2_with (first | (go_at_call 35; refine (lives_any _ _ _ _ _ _ _ _ _ _ _ _ _).mono ?_; rintro e w2 ⟨rfl, hb2⟩; obtain ⟨hc2, hf2⟩ := bcell hb2; have hz2' := hb2.size; have HB2 := Lib.hid hb2; clear hb2) | (at_builtin; refine wpList_append_own_at _ rfl _ _ 75 rfl w.heap.size 82 i0 _ 9 104 Try.underlying75 hi hz0 hz1 hz2 rfl (by decide) _ l'.length (rowCells l') rfl (by exact (own_below (HR.out.2.1.alloc _) HB2.out).alloc _) ⟨w2.heap.size, 0, none⟩ 1 1 (silCells (⟨id, ms, ow, se, cl, fr, un, cp, hd⟩, .slice A1 ms.length cp1)) rfl rfl (cells9 _ _ _ _ _ _ _ _ _ _ _) (silCells_one _ _ _ _) (by simp only [maxLen]; omega) (by omega) (by simp at hz2'; simp; omega) ?_; intro v' w3 hown3 hg3 _ hat3))
        have HF : Hid (SilsOk w3 base (l' ++ [(⟨id, ms, ow, se, cl, fr, un, cp, hd⟩, .slice A1 ms.length cp1)]) ∧ Below w.heap.size w w3) := grow_next hbase rfl HR.out.2.1 HR.out.2.2.1 HR.out.2.2.2 HB2.out ((HM.out.below (bel1 _ _)).below HB2.out) HO.out hg3 (by decide)
        have HOW : Hid (w3.ownsRow w.heap.size 82 9 v' (l' ++ [((⟨id, ms, ow, se, cl, fr, un, cp, hd⟩ : Sil), (.slice A1 ms.length cp1 : Value))]).length (rowCells (l' ++ [(⟨id, ms, ow, se, cl, fr, un, cp, hd⟩, .slice A1 ms.length cp1)]))) := by rw [Hid, rowCells_snoc, List.length_append]; exact hown3
        clear hown3 hg3 hat3
        go_roundw
        case rel => exact ⟨k + 1, _, by omega, by go_num, by rw [fil_yes (p := fun s => livesB s.fr s.un tick) HX.out hq, ← HR.out.1], by simp; omega, HOW.out, HF.out.1, HF.out.2⟩
        case measure => simp [intOf]; omega
      · have hq' : livesB fr un tick = false := by simpa using hq
        clear hq
        go_wp2_with (go_at_call 35; refine (lives_any _ _ _ _ _ _ _ _ _ _ _ _ _).mono ?_; rintro e w2 ⟨rfl, hb2⟩; obtain ⟨hc2, hf2⟩ := bcell hb2; have hz2' := hb2.size; have HB2 := Lib.hid hb2; clear hb2)
        go_roundw
        case rel => exact ⟨k + 1, l', by omega, by go_num, by rw [fil_no (p := fun s => livesB s.fr s.un tick) HX.out hq', ← HR.out.1], by omega, own_below (HR.out.2.1.alloc _) HB2.out, (HR.out.2.2.1.below (bel1 _ _)).below HB2.out, (HR.out.2.2.2.alloc HR.out.2.2.2.size _).trans (HB2.out.mono (by simp; omega))⟩
        case measure => simp [intOf]; omega
    · obtain ⟨A2, c2, hv2⟩ := own_form hown
      have HV := Lib.hid hv2
      have HL' : Hid (l' = l.filter (fun x => livesB x.1.fr x.1.un tick)) := by rw [Hid, hl', List.take_of_length_le (by omega)]
      clear hv2 hl'
      go_wp2
      go_ret
      refine ⟨A2, c2, ?_, ?_, ?_, hbw⟩
      · rw [← HL'.out]; exact congrArg Ending.returned HV.out
      · rw [← HL'.out, ← HV.out]; exact hown
      · rw [← HL'.out]; exact hok
end Go.Proofs.Ytoafpajibeejlaa
