/- Contracts, packed: Match2 Yc. -/
import Derived.Test.YtcifgobinleldaaGreatDoorPt3
import Derived.Test.YtcifgobinleldaaGreatDoorPt4
import Derived.Deep.RegionHeld3
import Derived.WalkSmall
set_option linter.unusedVariables false
set_option linter.unusedSimpArgs false
namespace Go.Proofs.YtcifgobinleldaaGreatDoor
section
open Go.RowKit

def prefB (v p : ByteArray) : Bool := decide (p.size ≤ v.size) && ((v.extract 0 p.size).toList == p.toList)
def holdsB (m : Mat) (v : ByteArray) : Bool :=
  if m.2.1 = 0 then v.toList == m.2.2.toList else if m.2.1 = 1 then !(v.toList == m.2.2.toList) else if m.2.1 = 2 then prefB v m.2.2 else false
def matchB (l : List Lab) (ms : List Mat) : Bool := ms.all fun m => holdsB m (getL l m.1)
def vmatB (m : Mat) : Bool := nameB m.1 && (decide (0 ≤ m.2.1) && decide (m.2.1 ≤ 2)) && valueB m.2.2

theorem slpref_any (v p : ByteArray) (w : World) : Calls Tryz.prog 122 #[.string v, .string p] w fun e w' => e = .returned (.bool (prefB v p)) ∧ w = w' := by
  by_cases h : p.size ≤ v.size
  · have E : Hid (prefB v p = ((v.extract 0 p.size).toList == p.toList)) := by unfold prefB; rw [decide_eq_true h]; rfl
    go_enter Tryz.func122, Tryz.ntmps122
    go_wp2
    go_ret
    exact ⟨ret_bool (by rw [E.out]), rfl⟩
  · have E : Hid (prefB v p = false) := by unfold prefB; rw [decide_eq_false h]; rfl
    have h' : decide (p.size ≤ v.size) = false := by simpa using h
    go_enter Tryz.func122, Tryz.ntmps122
    go_wp2
    go_ret
    exact ⟨ret_bool (by rw [E.out]), rfl⟩
theorem pref_any (v p : ByteArray) (w : World) : Calls Tryz.prog 74 #[.string v, .string p] w fun e w' => e = .returned (.bool (prefB v p)) ∧ w = w' := by
  go_enter Tryz.func74, Tryz.ntmps74
  go_wp2_with (go_at_call 122; refine (slpref_any _ _ _).mono ?_; rintro e w' ⟨rfl, rfl⟩)
  go_ret
  exact ⟨rfl, rfl⟩

theorem matchB_yes {l : List Lab} {ms : List Mat} {k : Nat} {x : Mat} (hk : ms[k]? = some x) (h : holdsB x (getL l x.1) = true) : matchB l (ms.drop k) = matchB l (ms.drop (k + 1)) := by
  obtain ⟨hlt, e⟩ := List.getElem?_eq_some_iff.1 hk
  rw [List.drop_eq_getElem_cons hlt, e]
  simp [matchB, h]
theorem matchB_no {l : List Lab} {ms : List Mat} {k : Nat} {x : Mat} (hk : ms[k]? = some x) (h : holdsB x (getL l x.1) = false) : matchB l (ms.drop k) = false := by
  obtain ⟨hlt, e⟩ := List.getElem?_eq_some_iff.1 hk
  rw [List.drop_eq_getElem_cons hlt, e]
  simp [matchB, h]

set_option maxHeartbeats 1000000 in
theorem match_any (A : Option Addr) (n c : Nat) (A' : Option Addr) (n' c' base : Nat) (l : List Lab) (ms : List Mat) (w : World) (h : Labs w base (.slice A n c) l) (h' : Mats w base (.slice A' n' c') ms) :
    Calls Tryz.prog 31 #[.slice A n c, .slice A' n' c'] w fun e w' => e = .returned (.bool (matchB l ms)) ∧ Below w.heap.size w w' := by
  obtain ⟨hn, hm⟩ := h'.len
  have HN := Lib.hid hn; clear hn
  have HL := Lib.hid h; clear h
  have HM := Lib.hid h'; clear h'
  go_enter Tryz.func31, Tryz.ntmps31
  go_wp2
  go_loopw [11] (fun i wr => ∃ k : Nat, k ≤ n' ∧ i = .int .i64 k ∧ Below w.heap.size w wr ∧ Hid (matchB l (ms.drop k) = matchB l ms)) (fun i _ => n' - (intOf i).toNat)
  case atStart => exact ⟨0, Nat.zero_le _, rfl, Below.refl _ _, rfl⟩
  case round =>
    obtain ⟨k, hk, rfl, hbw, HK⟩ := hrel
    have hsz := hbw.size
    by_cases hlt : k < n'
    · obtain ⟨x, hx⟩ : ∃ x, ms[k]? = some x := ⟨ms[k]'(by rw [← HN.out]; exact hlt), List.getElem?_eq_getElem _⟩
      obtain ⟨b, off, rfl, hb, c0, c1, c2⟩ := (HM.out.below hbw).at_ k x hx
      have HX := Lib.hid hx; clear hx
      have HLr := Lib.hid (HL.out.below hbw)
      have HB := Lib.hid hbw; clear hbw
      obtain ⟨x0, x1, x2⟩ := x
      by_cases h0 : x1 = 0
      · subst h0
        have E : Hid (holdsB (x0, 0, x2) (getL l x0) = ((getL l x0).toList == x2.toList)) := by rfl
        go_wp2_with (first | (go_at_call 73; refine (get_any _ _ _ base l _ _ (by exact HLr.out.below ((Below.refl _ _).alloc (Nat.le_refl _) _))).mono ?_; rintro e w' ⟨rfl, hb1⟩; obtain ⟨hc1, hf1⟩ := bcell hb1; have hz1 := hb1.size; have HB2 : Hid (Below w.heap.size w w') := (HB.out.alloc hsz _).trans (hb1.mono (by simp; omega)); clear hb1) | (go_at_call 74; refine (pref_any _ _ _).mono ?_; rintro e w' ⟨rfl, rfl⟩))
        · have q : (!(getL l x0).toList == x2.toList) = true := by assumption
          go_ret
          exact ⟨ret_bool (by rw [← HK.out, matchB_no HX.out (by rw [E.out]; simpa using q)]), HB2.out⟩
        · have q : (!(getL l x0).toList == x2.toList) = false := by assumption
          go_roundw
          case rel => exact ⟨k + 1, by omega, by go_num, HB2.out, (matchB_yes HX.out (by rw [E.out]; simpa using q)).symm.trans HK.out⟩
          case measure => simp [intOf]; omega
      by_cases h1 : x1 = 1
      · subst h1
        have E : Hid (holdsB (x0, 1, x2) (getL l x0) = (!(getL l x0).toList == x2.toList)) := by rfl
        go_wp2_with (first | (go_at_call 73; refine (get_any _ _ _ base l _ _ (by exact HLr.out.below ((Below.refl _ _).alloc (Nat.le_refl _) _))).mono ?_; rintro e w' ⟨rfl, hb1⟩; obtain ⟨hc1, hf1⟩ := bcell hb1; have hz1 := hb1.size; have HB2 : Hid (Below w.heap.size w w') := (HB.out.alloc hsz _).trans (hb1.mono (by simp; omega)); clear hb1) | (go_at_call 74; refine (pref_any _ _ _).mono ?_; rintro e w' ⟨rfl, rfl⟩))
        · have q : ((getL l x0).toList == x2.toList) = true := by assumption
          go_ret
          exact ⟨ret_bool (by rw [← HK.out, matchB_no HX.out (by rw [E.out]; simpa using q)]), HB2.out⟩
        · have q : ((getL l x0).toList == x2.toList) = false := by assumption
          go_roundw
          case rel => exact ⟨k + 1, by omega, by go_num, HB2.out, (matchB_yes HX.out (by rw [E.out]; simpa using q)).symm.trans HK.out⟩
          case measure => simp [intOf]; omega
      by_cases h2 : x1 = 2
      · subst h2
        have E : Hid (holdsB (x0, 2, x2) (getL l x0) = prefB (getL l x0) x2) := by rfl
        go_wp2_with (first | (go_at_call 73; refine (get_any _ _ _ base l _ _ (by exact HLr.out.below ((Below.refl _ _).alloc (Nat.le_refl _) _))).mono ?_; rintro e w' ⟨rfl, hb1⟩; obtain ⟨hc1, hf1⟩ := bcell hb1; have hz1 := hb1.size; have HB2 : Hid (Below w.heap.size w w') := (HB.out.alloc hsz _).trans (hb1.mono (by simp; omega)); clear hb1) | (go_at_call 74; refine (pref_any _ _ _).mono ?_; rintro e w' ⟨rfl, rfl⟩))
        · have q : (!prefB (getL l x0) x2) = true := by assumption
          go_ret
          exact ⟨ret_bool (by rw [← HK.out, matchB_no HX.out (by rw [E.out]; simpa using q)]), HB2.out⟩
        · have q : (!prefB (getL l x0) x2) = false := by assumption
          go_roundw
          case rel => exact ⟨k + 1, by omega, by go_num, HB2.out, (matchB_yes HX.out (by rw [E.out]; simpa using q)).symm.trans HK.out⟩
          case measure => simp [intOf]; omega
      · have E : Hid (holdsB (x0, x1, x2) (getL l x0) = false) := by
          show (if x1 = 0 then _ else if x1 = 1 then _ else if x1 = 2 then _ else _) = _
          rw [if_neg h0, if_neg h1, if_neg h2]
        have h0' : (x1 == 0) = false := by simpa using h0
        have h1' : (x1 == 1) = false := by simpa using h1
        have h2' : (x1 == 2) = false := by simpa using h2
        clear h0 h1 h2
        go_wp2_with (first | (go_at_call 73; refine (get_any _ _ _ base l _ _ (by exact HLr.out.below ((Below.refl _ _).alloc (Nat.le_refl _) _))).mono ?_; rintro e w' ⟨rfl, hb1⟩; obtain ⟨hc1, hf1⟩ := bcell hb1; have hz1 := hb1.size; have HB2 : Hid (Below w.heap.size w w') := (HB.out.alloc hsz _).trans (hb1.mono (by simp; omega)); clear hb1) | (go_at_call 74; refine (pref_any _ _ _).mono ?_; rintro e w' ⟨rfl, rfl⟩))
        go_ret
        exact ⟨ret_bool (by rw [← HK.out, matchB_no HX.out E.out]), HB2.out⟩
    · go_wp2
      go_ret
      exact ⟨ret_bool (by rw [← HK.out, List.drop_eq_nil_of_le (by rw [← HN.out]; omega)]; rfl), hbw⟩
end
section
open Go.RowKit

abbrev reqS : ByteArray := ⟨#[114, 101, 113]⟩
theorem WordsW.below {w w' : World} (h : WordsW w) (hb : Below w.heap.size w w') : WordsW w' := by
  obtain ⟨h1, ⟨h2, h3, h4⟩, h5, h6⟩ := h
  refine ⟨fun k hk => ?_, ⟨(hb.cell h6).trans h2, (hb.cell h6).trans h3, (hb.cell h6).trans h4⟩, Nat.lt_of_lt_of_le h5 hb.size, Nat.lt_of_lt_of_le h6 hb.size⟩
  obtain ⟨s, hs, hn⟩ := h1 k hk
  exact ⟨s, (hb.cell h5).trans hs, hn⟩
set_option maxHeartbeats 400000 in
theorem index_req (w : World) (hw : WordsW w) : Calls Tryz.prog 200 #[.slice (some ⟨4, 0, none⟩) 5 5, .string reqS] w fun e w' => e = .returned (.int .i64 (-1)) ∧ w' = w := by
  have HW := Box.mk hw; clear hw
  go_enter Tryz.func200, Tryz.ntmps200
  go_wp2
  go_loop [8] (fun v => ∃ k : Nat, k ≤ 5 ∧ v = .int .i64 (k : Nat)) (fun v => (5 - intOf v).toNat)
  case atStart => exact ⟨0, by omega, rfl⟩
  case round =>
    obtain ⟨k, hk, rfl⟩ := hrel
    by_cases h5 : k = 5
    · subst h5
      go_wp2
      go_ret
      exact ⟨rfl, rfl⟩
    · obtain ⟨s, hs, hn⟩ := HW.out.groups k (by omega)
      have hn1 : (([114, 101, 113] : List UInt8) == s.toList) = false := by rw [beq_eq_false_iff_ne] at hn ⊢; exact fun h => hn h.symm
      have hk2 : (k : Int) < 5 := by omega
      have hk3 : k < 5 := by omega
      clear h5
      go_wp2
      go_round
      case rel => exact ⟨k + 1, by omega, rfl⟩
      case measure => simp [intOf]; omega
set_option maxHeartbeats 400000 in
theorem contains_req (w : World) (hw : WordsW w) : Calls Tryz.prog 190 #[.slice (some ⟨4, 0, none⟩) 5 5, .string reqS] w (RetB (.bool false) w) := by
  have HW := Box.mk hw; clear hw
  go_enter Tryz.func190, Tryz.ntmps190
  go_wp2_with fail
  refine (index_req _ HW.out).mono ?_
  rintro e w1 ⟨rfl, rfl⟩
  go_wp2_with fail
  go_ret
  exact ⟨rfl, Below.refl _ _⟩
theorem name_s (w : World) : Calls Tryz.prog 80 #[.string reqS] w (RetB (.bool true) w) := by
  have := name_any reqS w (by decide)
  rw [name_req] at this
  exact this
structure Q1 (w W : World) : Prop where
  below : Below w.heap.size w W
  blk : Blk W w.heap.size 33 reqC
theorem Q1.next {w W W' : World} (h : Q1 w W) (hb : Below W.heap.size W W') : Q1 w W' := ⟨bthen h.below hb (Nat.le_refl _), h.blk.below hb⟩
theorem Q1.start (w : World) : Q1 w (w.alloc (.cells reqC 33)) := ⟨bel1 _ _, Blk.new _ _ _⟩
abbrev ReqAt (g : Nat) (w' : World) : Prop := w'.cell? ⟨g, 0, none⟩ = some (.int .i64 1) ∧ w'.cell? ⟨g, 1, none⟩ = some (.int .i64 6) ∧ w'.cell? ⟨g, 2, none⟩ = some (.int .i64 5) ∧ w'.cell? ⟨g, 3, none⟩ = some (.int .i64 0) ∧ w'.cell? ⟨g, 4, none⟩ = some (.int .i64 0) ∧ w'.cell? ⟨g, 5, none⟩ = some (.int .i64 0) ∧ w'.cell? ⟨g, 6, none⟩ = some (.int .i64 0) ∧ w'.cell? ⟨g, 7, none⟩ = some (.string reqS) ∧ w'.cell? ⟨g, 8, none⟩ = some (.slice none 0 0) ∧ w'.cell? ⟨g, 9, none⟩ = some (.slice none 0 0) ∧ w'.cell? ⟨g, 10, none⟩ = some (.slice none 0 0)
theorem req_at {W : World} {g : Nat} (h : Blk W g 33 reqC) : ReqAt g W := by
  unfold Blk at h
  refine ⟨?_, ?_, ?_, ?_, ?_, ?_, ?_, ?_, ?_, ?_, ?_⟩ <;> simp [World.cell?, h]
theorem Q1.c {w W : World} (h : Q1 w W) : ReqAt w.heap.size W := req_at h.blk
set_option maxHeartbeats 1000000 in
set_option maxRecDepth 100000 in
theorem named_req (w : World) (hw : WordsW w) : Calls Tryz.prog 153 #[reqV] w (RetB (.bool true) w) := by
  have HW := Box.mk hw; clear hw
  go_enter Tryz.func153, Tryz.ntmps153
  have HB := Lib.hid (Q1.start w)
  go_upto_region 1 with (fail)
  generalize w.alloc (.cells reqC 33) = W at HB ⊢
  obtain ⟨c0, c1, c2, c3, c4, c5, c6, c7, c8, c9, c10⟩ := HB.out.c
  clear c1 c2 c3 c4 c5 c6 c8 c9 c10
  go_cut [21] (fun x wx => x = .bool false ∧ Q1 w wx)
  case first =>
    go_region_held3 (fun w' => w'.cell? ⟨w.heap.size, 0, none⟩ = some (.int .i64 1) ∧ w'.cell? ⟨w.heap.size, 7, none⟩ = some (.string reqS))
      (first | exact ⟨HB.out.c.1, HB.out.c.2.2.2.2.2.2.2.1⟩ | exact ⟨(HB.out.next (below_drewN _ _)).c.1, (HB.out.next (below_drewN _ _)).c.2.2.2.2.2.2.2.1⟩ | go_keep)
      (first
        | (go_at_call 80; refine (name_s _).mono ?_; rintro e w5 ⟨rfl, hb5⟩; have HB2 : Hid (Q1 w w5) := (by first | exact HB.out.next hb5 | exact (HB.out.next (below_drewN _ _)).next hb5); clear HB; have HB := Lib.hid HB2.out; clear HB2; clear hb5)
        | (go_at_call 190; refine (contains_req _ (by first | exact HW.out.below HB.out.below | exact HW.out.below (HB.out.next (below_drewN _ _)).below)).mono ?_; rintro e w5 ⟨rfl, hb5⟩; have HB2 : Hid (Q1 w w5) := (by first | exact HB.out.next hb5 | exact (HB.out.next (below_drewN _ _)).next hb5); clear HB; have HB := Lib.hid HB2.out; clear HB2; clear hb5))
    all_goals
      go_wp2_with fail
      go_meet
      exact ⟨rfl, HB.out⟩
  case rest =>
    clear HB c0 c7
    obtain ⟨rfl, hbx⟩ := hcut
    rename World => wd
    have HB := Lib.hid hbx; clear hbx
    obtain ⟨c0, c1, c2, c3, c4, c5, c6, c7, c8, c9, c10⟩ := HB.out.c
    clear c0 c1 c2 c3 c4 c5 c6 c7
    go_wp2_with fail
    go_loop [25] (fun v => v = .int .i64 0) (fun _ => 0)
    case atStart => rfl
    case round =>
      subst hrel
      go_wp2_with fail
      go_loop [36] (fun v => v = .int .i64 0) (fun _ => 0)
      case atStart => rfl
      case round =>
        subst hrel
        go_wp2_with fail
        go_ret
        exact ⟨rfl, HB.out.below⟩
end
end Go.Proofs.YtcifgobinleldaaGreatDoor
