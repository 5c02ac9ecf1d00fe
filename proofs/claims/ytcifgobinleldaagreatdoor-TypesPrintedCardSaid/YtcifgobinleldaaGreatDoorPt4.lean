/- Contracts, packed: Match Yb Kc Se. -/
import Derived.Test.YtcifgobinleldaaGreatDoorPt2
import Derived.Test.YtcifgobinleldaaGreatDoorPt3
set_option linter.unusedVariables false
set_option linter.unusedSimpArgs false
namespace Go.Proofs.YtcifgobinleldaaGreatDoor
section
open Go.RowKit

abbrev Lab := ByteArray × ByteArray
abbrev Mat := ByteArray × Int × ByteArray
def labCells (x : Lab) : List Value := [.string x.1, .string x.2]
def matCells (x : Mat) : List Value := [.string x.1, .int .i64 x.2.1, .string x.2.2]

theorem flat_get {α : Type} (f : α → List Value) (size : Nat) (hf : ∀ x, (f x).length = size) (l : List α) (i j : Nat) (x : α) (hi : l[i]? = some x) (hj : j < size) :
    (l.flatMap f)[i * size + j]? = (f x)[j]? := by
  induction l generalizing i with
  | nil => simp at hi
  | cons y r ih =>
    rw [List.flatMap_cons]
    cases i with
    | zero =>
      simp at hi; subst hi
      rw [List.getElem?_append_left (by rw [hf]; omega)]; simp
    | succ i =>
      simp at hi
      rw [List.getElem?_append_right (by rw [hf, Nat.succ_mul]; omega), hf]
      rw [show (i + 1) * size + j - size = i * size + j by rw [Nat.succ_mul]; omega]
      exact ih i hi

def Labs (w : World) (base : Nat) (v : Value) (l : List Lab) : Prop := Seq w base 146 2 v l.length (l.flatMap labCells)
def Mats (w : World) (base : Nat) (v : Value) (l : List Mat) : Prop := Seq w base 114 3 v l.length (l.flatMap matCells)

theorem Labs.below {w w' : World} {base : Nat} {v : Value} {l : List Lab} (h : Labs w base v l) (f : Below w.heap.size w w') : Labs w' base v l := Seq.below h f
theorem Mats.below {w w' : World} {base : Nat} {v : Value} {l : List Mat} (h : Mats w base v l) (f : Below w.heap.size w w') : Mats w' base v l := Seq.below h f
theorem Labs.keep {w w' : World} {base : Nat} {T : List TypeId} {v : Value} {l : List Lab} (h : Labs w base v l) (f : Fr base T w w') (ht : 146 ∉ T) : Labs w' base v l := Seq.keep h f ht
theorem Mats.keep {w w' : World} {base : Nat} {T : List TypeId} {v : Value} {l : List Mat} (h : Mats w base v l) (f : Fr base T w w') (ht : 114 ∉ T) : Mats w' base v l := Seq.keep h f ht

/-- one element of a slice of labels: its two cells -/
theorem Labs.at_ {w : World} {base : Nat} {A : Option Addr} {n c : Nat} {l : List Lab} (h : Labs w base (.slice A n c) l) (k : Nat) (x : Lab) (hk : l[k]? = some x) :
    ∃ b off, A = some ⟨b, off, none⟩ ∧ b < w.heap.size ∧ w.cell? ⟨b, off + k * 2, none⟩ = some (.string x.1) ∧ w.cell? ⟨b, off + k * 2 + 1, none⟩ = some (.string x.2) := by
  obtain ⟨_, A', c', hv, _, _, h2⟩ := h
  cases hv
  have hlt : k < l.length := (List.getElem?_eq_some_iff.1 hk).1
  obtain ⟨b, off, rfl, hf, hx⟩ := h2 (by omega)
  refine ⟨b, off, rfl, hf.1, ?_, ?_⟩
  · have := flat_get labCells 2 (fun _ => rfl) l k 0 x hk (by omega)
    exact hx _ _ (this.trans rfl)
  · have := flat_get labCells 2 (fun _ => rfl) l k 1 x hk (by omega)
    have := hx _ _ (this.trans rfl)
    rwa [← Nat.add_assoc] at this
theorem Mats.at_ {w : World} {base : Nat} {A : Option Addr} {n c : Nat} {l : List Mat} (h : Mats w base (.slice A n c) l) (k : Nat) (x : Mat) (hk : l[k]? = some x) :
    ∃ b off, A = some ⟨b, off, none⟩ ∧ b < w.heap.size ∧ w.cell? ⟨b, off + k * 3, none⟩ = some (.string x.1) ∧ w.cell? ⟨b, off + k * 3 + 1, none⟩ = some (.int .i64 x.2.1) ∧ w.cell? ⟨b, off + k * 3 + 2, none⟩ = some (.string x.2.2) := by
  obtain ⟨_, A', c', hv, _, _, h2⟩ := h
  cases hv
  have hlt : k < l.length := (List.getElem?_eq_some_iff.1 hk).1
  obtain ⟨b, off, rfl, hf, hx⟩ := h2 (by omega)
  refine ⟨b, off, rfl, hf.1, ?_, ?_, ?_⟩
  · have := flat_get matCells 3 (fun _ => rfl) l k 0 x hk (by omega)
    exact hx _ _ (this.trans rfl)
  · have := flat_get matCells 3 (fun _ => rfl) l k 1 x hk (by omega)
    have := hx _ _ (this.trans rfl)
    rwa [← Nat.add_assoc] at this
  · have := flat_get matCells 3 (fun _ => rfl) l k 2 x hk (by omega)
    have := hx _ _ (this.trans rfl)
    rwa [← Nat.add_assoc] at this
theorem Labs.len {w : World} {base : Nat} {A : Option Addr} {n c : Nat} {l : List Lab} (h : Labs w base (.slice A n c) l) : n = l.length ∧ n ≤ 9223372036854775807 := by
  obtain ⟨_, A', c', hv, h1, h2, _⟩ := h
  cases hv
  unfold maxLen at h2
  exact ⟨rfl, by omega⟩
theorem Mats.len {w : World} {base : Nat} {A : Option Addr} {n c : Nat} {l : List Mat} (h : Mats w base (.slice A n c) l) : n = l.length ∧ n ≤ 9223372036854775807 := by
  obtain ⟨_, A', c', hv, h1, h2, _⟩ := h
  cases hv
  unfold maxLen at h2
  exact ⟨rfl, by omega⟩

/-- the value of the first label with this name -/
def getL (l : List Lab) (nm : ByteArray) : ByteArray := match l with
  | [] => ⟨#[]⟩
  | x :: r => if x.1.toList == nm.toList then x.2 else getL r nm
theorem getL_yes {l : List Lab} {k : Nat} {x : Lab} {nm : ByteArray} (hk : l[k]? = some x) (h : (x.1.toList == nm.toList) = true) : getL (l.drop k) nm = x.2 := by
  obtain ⟨hlt, e⟩ := List.getElem?_eq_some_iff.1 hk
  rw [List.drop_eq_getElem_cons hlt, e]
  unfold getL
  rw [if_pos h]
theorem getL_no {l : List Lab} {k : Nat} {x : Lab} {nm : ByteArray} (hk : l[k]? = some x) (h : (x.1.toList == nm.toList) = false) : getL (l.drop k) nm = getL (l.drop (k + 1)) nm := by
  obtain ⟨hlt, e⟩ := List.getElem?_eq_some_iff.1 hk
  rw [List.drop_eq_getElem_cons hlt, e]
  conv => lhs; unfold getL
  rw [if_neg (by simp [h])]

set_option maxHeartbeats 400000 in
theorem get_any (A : Option Addr) (n c base : Nat) (l : List Lab) (nm : ByteArray) (w : World) (h : Labs w base (.slice A n c) l) :
    Calls Tryz.prog 73 #[.slice A n c, .string nm] w fun e w' => e = .returned (.string (getL l nm)) ∧ Below w.heap.size w w' := by
  obtain ⟨hn, hm⟩ := h.len
  have HN := Lib.hid hn; clear hn
  have HL := Lib.hid h; clear h
  go_enter Tryz.func73, Tryz.ntmps73
  go_wp2
  go_loopw [9] (fun i wr => ∃ k : Nat, k ≤ n ∧ i = .int .i64 k ∧ Below w.heap.size w wr ∧ Hid (getL (l.drop k) nm = getL l nm)) (fun i _ => n - (intOf i).toNat)
  case atStart => exact ⟨0, Nat.zero_le _, rfl, Below.refl _ _, rfl⟩
  case round =>
    obtain ⟨k, hk, rfl, hbw, HK⟩ := hrel
    have hsz := hbw.size
    by_cases hlt : k < n
    · obtain ⟨x, hx⟩ : ∃ x, l[k]? = some x := ⟨l[k]'(by rw [← HN.out]; exact hlt), List.getElem?_eq_getElem _⟩
      obtain ⟨b, off, rfl, hb, c0, c1⟩ := (HL.out.below hbw).at_ k x hx
      have HX := Lib.hid hx; clear hx
      have HB := Lib.hid hbw; clear hbw
      by_cases he : (x.1.toList == nm.toList) = true
      · go_wp2
        go_ret
        exact ⟨ret_str (by rw [← HK.out, getL_yes HX.out he]), HB.out.alloc hsz _⟩
      · have he' : (x.1.toList == nm.toList) = false := by simpa using he
        clear he
        go_wp2
        go_roundw
        case rel => exact ⟨k + 1, by omega, by go_num, HB.out.alloc hsz _, by rw [← HK.out, getL_no HX.out he']; rfl⟩
        case measure => simp [intOf]; omega
    · go_wp2
      go_ret
      exact ⟨ret_str (by rw [← HK.out, List.drop_eq_nil_of_le (by rw [← HN.out]; omega)]; rfl), hbw⟩
end
section
open Go.RowKit

abbrev reqC : Array Value := #[.int .i64 1, .int .i64 6, .int .i64 5, .int .i64 0, .int .i64 0, .int .i64 0, .int .i64 0, .string ⟨#[114, 101, 113]⟩, .slice none 0 0, .slice none 0 0, .slice none 0 0]
abbrev reqV : Value := .agg reqC
def RetB (v : Value) (w : World) (e : Ending) (w' : World) : Prop := e = .returned v ∧ Below w.heap.size w w'
set_option maxHeartbeats 1000000 in
theorem shaped_req (w : World) : Calls Tryz.prog 152 #[reqV] w (RetB (.bool true) w) := by
  go_enter Tryz.func152, Tryz.ntmps152
  go_wp2_with fail
  go_ret
  exact ⟨rfl, bel1 _ _⟩
set_option maxHeartbeats 1000000 in
theorem ranged_req (w : World) : Calls Tryz.prog 154 #[reqV] w (RetB (.bool true) w) := by
  go_enter Tryz.func154, Tryz.ntmps154
  go_wp2_with fail
  go_ret
  exact ⟨rfl, bel1 _ _⟩
set_option maxHeartbeats 1000000 in
theorem count_req (w : World) (g : Nat) (hg : Blk w g 3 #[.int .i64 200]) : Calls Tryz.prog 117 #[reqV, .int .i64 1, .pointer (some ⟨g, 0, none⟩)] w fun e w' => e = .returned (.tuple #[]) ∧ Blk w' g 3 #[.int .i64 199] ∧ w.heap.size ≤ w'.heap.size ∧ Below g w w' := by
  have HG := Box.mk hg
  have c0 := hg.c1
  have cf := hg.frozen
  have gz := hg.lt
  have gn : ¬ g = w.heap.size := by omega
  have gm : ¬ w.heap.size = g := by omega
  clear hg
  go_enter Tryz.func117, Tryz.ntmps117
  go_wp2_with fail
  go_loopw [6] (fun v wr => v = .int .i64 0 ∧ Blk wr g 3 #[.int .i64 199] ∧ Blk wr w.heap.size 33 reqC ∧ Below g w wr) (fun _ _ => 0)
  case atStart => exact ⟨rfl, Blk.alloc (by simpa using HG.out.set 0 (.int .i64 199)) _, Blk.newAt _ _ (by simp [World.setCell]), ((Below.refl g w).setCell (p := ⟨g, 0, none⟩) (Nat.le_refl _) _).alloc (by simp [World.setCell]; omega) _⟩
  case round =>
    obtain ⟨rfl, h1, h2, h3⟩ := hrel
    have H1 := Box.mk h1; have H3 := Box.mk h3
    have c1 := h1.c1
    have c2 : wr.cell? ⟨w.heap.size, 10, none⟩ = some (.slice none 0 0) := by unfold Blk at h2; simp [World.cell?, h2]
    clear h1 h2 h3
    go_wp2_with fail
    go_end0
    exact ⟨rfl, H1.out, H3.out.size, H3.out⟩
set_option maxHeartbeats 1000000 in
theorem fits_req (w : World) : Calls Tryz.prog 63 #[reqV] w (RetB (.bool true) w) := by
  go_enter Tryz.func63, Tryz.ntmps63
  go_wp2_with fail
  refine (count_req _ (w.heap.size + 1) (Blk.newAt _ _ (by simp))).mono ?_
  rintro e w1 ⟨rfl, h1, h2, h3⟩
  have HB : Box (Below w.heap.size w w1) := ⟨(bel2 _ _ _).trans (h3.mono (by omega))⟩
  have c1 := h1.c1
  clear h1 h2 h3
  go_wp2_with fail
  go_ret
  exact ⟨rfl, HB.out⟩
theorem name_req : nameB ⟨#[114, 101, 113]⟩ = true := by decide +kernel
/-- what the program's own variables hold -/
structure WordsW (w : World) : Prop where
  groups : ∀ k : Nat, k < 5 → ∃ s : ByteArray, w.cell? ⟨4, k, none⟩ = some (.string s) ∧ (s.toList == [114, 101, 113]) = false
  units : w.cell? ⟨0, 0, none⟩ = some (.string ⟨#[105, 116, 101, 109]⟩) ∧ w.cell? ⟨0, 1, none⟩ = some (.string ⟨#[98, 121, 116, 101]⟩) ∧ w.cell? ⟨0, 2, none⟩ = some (.string ⟨#[116, 105, 99, 107]⟩)
  low : 4 < w.heap.size ∧ 0 < w.heap.size
end
section
open Go.RowKit

theorem kletter_any (c : UInt8) (w : World) : Calls Tryz.prog 159 #[.int .u8 (c.toNat : Int)] w fun e w' => e = .returned (.bool (letB c)) ∧ w = w' := by
  obtain ⟨x, hx⟩ : ∃ x, c.toNat = x := ⟨_, rfl⟩
  have e : letB c = (decide (97 ≤ x) && decide (x ≤ 122)) := by unfold letB; rw [hx]
  rw [e, hx]
  clear e hx
  by_cases h : 97 ≤ x
  · by_cases h2 : x ≤ 122
    · have E := Lib.hid (show (decide (97 ≤ x) && decide (x ≤ 122)) = true by simp [h, h2])
      go_enter Tryz.func159, Tryz.ntmps159
      go_wp2
      go_ret
      exact ⟨ret_bool (by first | rfl | (rw [E.out]; try (simp; try omega))), rfl⟩
    · have E := Lib.hid (show (decide (97 ≤ x) && decide (x ≤ 122)) = false by simp [h2])
      go_enter Tryz.func159, Tryz.ntmps159
      go_wp2
      go_ret
      exact ⟨ret_bool (by first | rfl | (rw [E.out]; try (simp; try omega))), rfl⟩
  · have E := Lib.hid (show (decide (97 ≤ x) && decide (x ≤ 122)) = false by simp [h])
    go_enter Tryz.func159, Tryz.ntmps159
    go_wp2
    go_ret
    exact ⟨ret_bool (by first | rfl | (rw [E.out]; try (simp; try omega))), rfl⟩
theorem kdigit_any (c : UInt8) (w : World) : Calls Tryz.prog 161 #[.int .u8 (c.toNat : Int)] w fun e w' => e = .returned (.bool (digB c)) ∧ w = w' := by
  obtain ⟨x, hx⟩ : ∃ x, c.toNat = x := ⟨_, rfl⟩
  have e : digB c = (decide (48 ≤ x) && decide (x ≤ 57)) := by unfold digB; rw [hx]
  rw [e, hx]
  clear e hx
  by_cases h : 48 ≤ x
  · by_cases h2 : x ≤ 57
    · have E := Lib.hid (show (decide (48 ≤ x) && decide (x ≤ 57)) = true by simp [h, h2])
      go_enter Tryz.func161, Tryz.ntmps161
      go_wp2
      go_ret
      exact ⟨ret_bool (by first | rfl | (rw [E.out]; try (simp; try omega))), rfl⟩
    · have E := Lib.hid (show (decide (48 ≤ x) && decide (x ≤ 57)) = false by simp [h2])
      go_enter Tryz.func161, Tryz.ntmps161
      go_wp2
      go_ret
      exact ⟨ret_bool (by first | rfl | (rw [E.out]; try (simp; try omega))), rfl⟩
  · have E := Lib.hid (show (decide (48 ≤ x) && decide (x ≤ 57)) = false by simp [h])
    go_enter Tryz.func161, Tryz.ntmps161
    go_wp2
    go_ret
    exact ⟨ret_bool (by first | rfl | (rw [E.out]; try (simp; try omega))), rfl⟩
set_option maxHeartbeats 400000 in
theorem kword1_any (c : UInt8) (w : World) : Calls Tryz.prog 195 #[.int .u8 (c.toNat : Int)] w fun e w' => e = .returned (.bool (wrdB c)) ∧ w = w' := by
  obtain ⟨a, ha⟩ : ∃ a, letB c = a := ⟨_, rfl⟩
  obtain ⟨b, hb⟩ : ∃ b, digB c = b := ⟨_, rfl⟩
  obtain ⟨d, hd⟩ : ∃ d, (c.toNat == 95) = d := ⟨_, rfl⟩
  have e : wrdB c = (a || b || d) := by unfold wrdB; rw [ha, hb, hd]
  have hd2 : ((c.toNat : Int) == 95) = d := by rw [← hd]; rw [Bool.eq_iff_iff, beq_iff_eq, beq_iff_eq]; omega
  have HA : Box (∀ w, Calls Tryz.prog 159 #[.int .u8 (c.toNat : Int)] w fun e w' => e = .returned (.bool a) ∧ w = w') := ⟨fun w => by rw [← ha]; exact kletter_any c w⟩
  have HB : Box (∀ w, Calls Tryz.prog 161 #[.int .u8 (c.toNat : Int)] w fun e w' => e = .returned (.bool b) ∧ w = w') := ⟨fun w => by rw [← hb]; exact kdigit_any c w⟩
  rw [e]
  clear e hd ha hb
  cases a <;> cases b
  all_goals
    go_enter Tryz.func195, Tryz.ntmps195
    go_wp2_with (first
      | (go_at_call 159; (with_reducible refine (HA.out _).mono ?_); rintro e w' ⟨rfl, rfl⟩)
      | (go_at_call 161; (with_reducible refine (HB.out _).mono ?_); rintro e w' ⟨rfl, rfl⟩))
    go_ret
    exact ⟨rfl, rfl⟩
/-- the source at q -/
abbrev Src (w : World) (q : Nat) (s : ByteArray) (i e : Int) : Prop := Blk w q 178 #[.string s, .int .i64 i, .int .i64 e]
def twN (f : UInt8 → Bool) (s : ByteArray) (k : Nat) : Nat := ((s.data.toList.drop k).takeWhile f).length
theorem data_size (s : ByteArray) : s.data.toList.length = s.size := by show s.data.toList.length = s.data.size; simp
theorem kdrop_at {s : ByteArray} {k : Nat} (h : k < s.size) : s.data.toList.drop k = s[k] :: s.data.toList.drop (k + 1) := by
  rw [List.drop_eq_getElem_cons (by rw [data_size]; exact h)]
  rfl
theorem twN_step {f : UInt8 → Bool} {s : ByteArray} {k : Nat} (h : k < s.size) (hf : f s[k] = true) : twN f s k = twN f s (k + 1) + 1 := by
  unfold twN; rw [kdrop_at h, List.takeWhile_cons, hf]; simp
theorem twN_stop {f : UInt8 → Bool} {s : ByteArray} {k : Nat} (h : k < s.size) (hf : f s[k] = false) : twN f s k = 0 := by
  unfold twN; rw [kdrop_at h, List.takeWhile_cons, hf]; simp
theorem twN_end {f : UInt8 → Bool} {s : ByteArray} {k : Nat} (h : s.size ≤ k) : twN f s k = 0 := by
  unfold twN; rw [List.drop_eq_nil_of_le (by rw [data_size]; exact h)]; simp
theorem twN_le {f : UInt8 → Bool} {s : ByteArray} {k : Nat} (h : k ≤ s.size) : k + twN f s k ≤ s.size := by
  have h1 := List.takeWhile_prefix f (l := s.data.toList.drop k) |>.length_le
  have h2 : (s.data.toList.drop k).length = s.size - k := by rw [List.length_drop, data_size]
  unfold twN; omega
set_option maxHeartbeats 400000 in
theorem krun_word (q k0 : Nat) (s : ByteArray) (i er : Int) (w : World) (h : Src w q s i er) (hk : k0 ≤ s.size) (hs : s.size ≤ 4000) :
    Calls Tryz.prog 194 #[.pointer (some ⟨q, 0, none⟩), .int .i64 k0, .func (.func 195) #[] #[]] w fun e w' => e = .returned (.int .i64 ((k0 + twN wrdB s k0 : Nat) : Int)) ∧ w = w' := by
  obtain ⟨c0, c1, c2⟩ := h.c3
  obtain ⟨en, HE⟩ : ∃ en, Box (k0 + twN wrdB s k0 = en) := ⟨_, ⟨rfl⟩⟩
  rw [HE.out]
  clear h
  go_enter Tryz.func194, Tryz.ntmps194
  go_wp2_with fail
  go_loop [1] (fun v => ∃ k : Nat, v = .int .i64 k ∧ k ≤ s.size ∧ Hid (k + twN wrdB s k = en)) (fun v => s.size - (intOf v).toNat)
  case atStart => exact ⟨k0, rfl, hk, HE.out⟩
  case round =>
    obtain ⟨k, rfl, hk2, HK⟩ := hrel
    by_cases hlt : k < s.size
    · have hlt2 : (k : Int) < (s.size : Int) := by omega
      obtain ⟨b, hb⟩ : ∃ b, wrdB s[k] = b := ⟨_, rfl⟩
      have HC : Box (∀ w, Calls Tryz.prog 195 #[.int .u8 (s[k].toNat : Int)] w fun e w' => e = .returned (.bool b) ∧ w = w') := ⟨fun w => by rw [← hb]; exact kword1_any _ w⟩
      cases b
      · have HN : Hid (k = en) := by have := HK.out; rw [twN_stop hlt hb] at this; exact this
        clear hb
        go_wp2_with (go_at_call 195; (with_reducible refine (HC.out _).mono ?_); rintro e w' ⟨rfl, rfl⟩)
        go_ret
        exact ⟨ret_int (by rw [HN.out]), rfl⟩
      · have HN : Hid (k + 1 + twN wrdB s (k + 1) = en) := by have h5 := HK.out; rw [twN_step hlt hb] at h5; show k + 1 + twN wrdB s (k + 1) = en; omega
        clear hb
        go_wp2_with (go_at_call 195; (with_reducible refine (HC.out _).mono ?_); rintro e w' ⟨rfl, rfl⟩)
        go_round
        case rel => exact ⟨k + 1, by go_num, by omega, HN.out⟩
        case measure => simp [intOf]; omega
    · have hlt2 : ¬ (k : Int) < (s.size : Int) := by omega
      have HN : Hid (k = en) := by have := HK.out; rw [twN_end (by omega)] at this; exact this
      go_wp2_with fail
      go_ret
      exact ⟨ret_int (by rw [HN.out]), rfl⟩
set_option maxHeartbeats 400000 in
theorem krun_digit (q k0 : Nat) (s : ByteArray) (i er : Int) (w : World) (h : Src w q s i er) (hk : k0 ≤ s.size) (hs : s.size ≤ 4000) :
    Calls Tryz.prog 194 #[.pointer (some ⟨q, 0, none⟩), .int .i64 k0, .func (.func 161) #[] #[]] w fun e w' => e = .returned (.int .i64 ((k0 + twN digB s k0 : Nat) : Int)) ∧ w = w' := by
  obtain ⟨c0, c1, c2⟩ := h.c3
  obtain ⟨en, HE⟩ : ∃ en, Box (k0 + twN digB s k0 = en) := ⟨_, ⟨rfl⟩⟩
  rw [HE.out]
  clear h
  go_enter Tryz.func194, Tryz.ntmps194
  go_wp2_with fail
  go_loop [1] (fun v => ∃ k : Nat, v = .int .i64 k ∧ k ≤ s.size ∧ Hid (k + twN digB s k = en)) (fun v => s.size - (intOf v).toNat)
  case atStart => exact ⟨k0, rfl, hk, HE.out⟩
  case round =>
    obtain ⟨k, rfl, hk2, HK⟩ := hrel
    by_cases hlt : k < s.size
    · have hlt2 : (k : Int) < (s.size : Int) := by omega
      obtain ⟨b, hb⟩ : ∃ b, digB s[k] = b := ⟨_, rfl⟩
      have HC : Box (∀ w, Calls Tryz.prog 161 #[.int .u8 (s[k].toNat : Int)] w fun e w' => e = .returned (.bool b) ∧ w = w') := ⟨fun w => by rw [← hb]; exact kdigit_any _ w⟩
      cases b
      · have HN : Hid (k = en) := by have := HK.out; rw [twN_stop hlt hb] at this; exact this
        clear hb
        go_wp2_with (go_at_call 161; (with_reducible refine (HC.out _).mono ?_); rintro e w' ⟨rfl, rfl⟩)
        go_ret
        exact ⟨ret_int (by rw [HN.out]), rfl⟩
      · have HN : Hid (k + 1 + twN digB s (k + 1) = en) := by have h5 := HK.out; rw [twN_step hlt hb] at h5; show k + 1 + twN digB s (k + 1) = en; omega
        clear hb
        go_wp2_with (go_at_call 161; (with_reducible refine (HC.out _).mono ?_); rintro e w' ⟨rfl, rfl⟩)
        go_round
        case rel => exact ⟨k + 1, by go_num, by omega, HN.out⟩
        case measure => simp [intOf]; omega
    · have hlt2 : ¬ (k : Int) < (s.size : Int) := by omega
      have HN : Hid (k = en) := by have := HK.out; rw [twN_end (by omega)] at this; exact this
      go_wp2_with fail
      go_ret
      exact ⟨ret_int (by rw [HN.out]), rfl⟩
end
section
open Go.RowKit FracM
end
end Go.Proofs.YtcifgobinleldaaGreatDoor
