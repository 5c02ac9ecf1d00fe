/- Contracts, packed: Match Match2 Qa Qv. -/
import Derived.Test.YtgomgoacponbkaaDoorPk2
import Derived.Deep.RegionHeld3
import Derived.WalkSmall
set_option linter.unusedVariables false
set_option linter.unusedSimpArgs false
namespace Go.Proofs.YtgomgoacponbkaaDoor
section
open Go.RowKit

abbrev Lab := ByteArray × ByteArray
abbrev Mat := ByteArray × Int × ByteArray
def labCells (x : Lab) : List Value := [.string x.1, .string x.2]
def matCells (x : Mat) : List Value := [.string x.1, .int .i64 x.2.1, .string x.2.2]

theorem flat_len {α : Type} (f : α → List Value) (size : Nat) (hf : ∀ x, (f x).length = size) (l : List α) : (l.flatMap f).length = l.length * size := by
  induction l with
  | nil => simp
  | cons x r ih => rw [List.flatMap_cons, List.length_append, ih, hf, List.length_cons, Nat.succ_mul]; omega
theorem flat_get {α : Type} (f : α → List Value) (size : Nat) (hf : ∀ x, (f x).length = size) (l : List α) (i j : Nat) (x : α) (hi : l[i]? = some x) (hj : j < size) :
    (l.flatMap f)[i * size + j]? = (f x)[j]? := by
  induction l generalizing i with
  | nil => simp at hi
  | cons y r ih =>
    rw [List.flatMap_cons]
    cases i with
    | zero =>
      simp at hi; subst hi
      rw [List.getElem?_append_left (by rw [hf]; omega)]; simp
    | succ i =>
      simp at hi
      rw [List.getElem?_append_right (by rw [hf, Nat.succ_mul]; omega), hf]
      rw [show (i + 1) * size + j - size = i * size + j by rw [Nat.succ_mul]; omega]
      exact ih i hi

def Labs (w : World) (base : Nat) (v : Value) (l : List Lab) : Prop := Seq w base 78 2 v l.length (l.flatMap labCells)
def Mats (w : World) (base : Nat) (v : Value) (l : List Mat) : Prop := Seq w base 84 3 v l.length (l.flatMap matCells)

theorem Labs.below {w w' : World} {base : Nat} {v : Value} {l : List Lab} (h : Labs w base v l) (f : Below w.heap.size w w') : Labs w' base v l := Seq.below h f
theorem Mats.below {w w' : World} {base : Nat} {v : Value} {l : List Mat} (h : Mats w base v l) (f : Below w.heap.size w w') : Mats w' base v l := Seq.below h f
theorem Labs.keep {w w' : World} {base : Nat} {T : List TypeId} {v : Value} {l : List Lab} (h : Labs w base v l) (f : Fr base T w w') (ht : 78 ∉ T) : Labs w' base v l := Seq.keep h f ht
theorem Mats.keep {w w' : World} {base : Nat} {T : List TypeId} {v : Value} {l : List Mat} (h : Mats w base v l) (f : Fr base T w w') (ht : 84 ∉ T) : Mats w' base v l := Seq.keep h f ht

/-- one element of a slice of labels: its two cells -/
theorem Labs.at_ {w : World} {base : Nat} {A : Option Addr} {n c : Nat} {l : List Lab} (h : Labs w base (.slice A n c) l) (k : Nat) (x : Lab) (hk : l[k]? = some x) :
    ∃ b off, A = some ⟨b, off, none⟩ ∧ b < w.heap.size ∧ w.cell? ⟨b, off + k * 2, none⟩ = some (.string x.1) ∧ w.cell? ⟨b, off + k * 2 + 1, none⟩ = some (.string x.2) := by
  obtain ⟨_, A', c', hv, _, _, h2⟩ := h
  cases hv
  have hlt : k < l.length := (List.getElem?_eq_some_iff.1 hk).1
  obtain ⟨b, off, rfl, hf, hx⟩ := h2 (by omega)
  refine ⟨b, off, rfl, hf.1, ?_, ?_⟩
  · have := flat_get labCells 2 (fun _ => rfl) l k 0 x hk (by omega)
    exact hx _ _ (this.trans rfl)
  · have := flat_get labCells 2 (fun _ => rfl) l k 1 x hk (by omega)
    have := hx _ _ (this.trans rfl)
    rwa [← Nat.add_assoc] at this
theorem Mats.at_ {w : World} {base : Nat} {A : Option Addr} {n c : Nat} {l : List Mat} (h : Mats w base (.slice A n c) l) (k : Nat) (x : Mat) (hk : l[k]? = some x) :
    ∃ b off, A = some ⟨b, off, none⟩ ∧ b < w.heap.size ∧ w.cell? ⟨b, off + k * 3, none⟩ = some (.string x.1) ∧ w.cell? ⟨b, off + k * 3 + 1, none⟩ = some (.int .i64 x.2.1) ∧ w.cell? ⟨b, off + k * 3 + 2, none⟩ = some (.string x.2.2) := by
  obtain ⟨_, A', c', hv, _, _, h2⟩ := h
  cases hv
  have hlt : k < l.length := (List.getElem?_eq_some_iff.1 hk).1
  obtain ⟨b, off, rfl, hf, hx⟩ := h2 (by omega)
  refine ⟨b, off, rfl, hf.1, ?_, ?_, ?_⟩
  · have := flat_get matCells 3 (fun _ => rfl) l k 0 x hk (by omega)
    exact hx _ _ (this.trans rfl)
  · have := flat_get matCells 3 (fun _ => rfl) l k 1 x hk (by omega)
    have := hx _ _ (this.trans rfl)
    rwa [← Nat.add_assoc] at this
  · have := flat_get matCells 3 (fun _ => rfl) l k 2 x hk (by omega)
    have := hx _ _ (this.trans rfl)
    rwa [← Nat.add_assoc] at this
theorem Labs.len {w : World} {base : Nat} {A : Option Addr} {n c : Nat} {l : List Lab} (h : Labs w base (.slice A n c) l) : n = l.length ∧ n ≤ 9223372036854775807 := by
  obtain ⟨_, A', c', hv, h1, h2, _⟩ := h
  cases hv
  unfold maxLen at h2
  exact ⟨rfl, by omega⟩
theorem Mats.len {w : World} {base : Nat} {A : Option Addr} {n c : Nat} {l : List Mat} (h : Mats w base (.slice A n c) l) : n = l.length ∧ n ≤ 9223372036854775807 := by
  obtain ⟨_, A', c', hv, h1, h2, _⟩ := h
  cases hv
  unfold maxLen at h2
  exact ⟨rfl, by omega⟩

/-- the value of the first label with this name -/
def getL (l : List Lab) (nm : ByteArray) : ByteArray := match l with
  | [] => ⟨#[]⟩
  | x :: r => if x.1.toList == nm.toList then x.2 else getL r nm
theorem getL_yes {l : List Lab} {k : Nat} {x : Lab} {nm : ByteArray} (hk : l[k]? = some x) (h : (x.1.toList == nm.toList) = true) : getL (l.drop k) nm = x.2 := by
  obtain ⟨hlt, e⟩ := List.getElem?_eq_some_iff.1 hk
  rw [List.drop_eq_getElem_cons hlt, e]
  unfold getL
  rw [if_pos h]
theorem getL_no {l : List Lab} {k : Nat} {x : Lab} {nm : ByteArray} (hk : l[k]? = some x) (h : (x.1.toList == nm.toList) = false) : getL (l.drop k) nm = getL (l.drop (k + 1)) nm := by
  obtain ⟨hlt, e⟩ := List.getElem?_eq_some_iff.1 hk
  rw [List.drop_eq_getElem_cons hlt, e]
  conv => lhs; unfold getL
  rw [if_neg (by simp [h])]

set_option maxHeartbeats 400000 in
theorem rget_any (A : Option Addr) (n c base : Nat) (l : List Lab) (nm : ByteArray) (w : World) (h : Labs w base (.slice A n c) l) :
    Calls Tryd.prog 110 #[.slice A n c, .string nm] w fun e w' => e = .returned (.string (getL l nm)) ∧ w = w' := by
  obtain ⟨hn, hm⟩ := h.len
  have HN := Lib.hid hn; clear hn
  have HL := Lib.hid h; clear h
  go_enter Tryd.func110, Tryd.ntmps110
  go_wp2
  go_loop [5] (fun i => ∃ k : Nat, k ≤ n ∧ i = .int .i64 k ∧ Hid (getL (l.drop k) nm = getL l nm)) (fun i => n - (intOf i).toNat)
  case atStart => exact ⟨0, Nat.zero_le _, rfl, rfl⟩
  case round =>
    obtain ⟨k, hk, rfl, HK⟩ := hrel
    by_cases hlt : k < n
    · obtain ⟨x, hx⟩ : ∃ x, l[k]? = some x := ⟨l[k]'(by rw [← HN.out]; exact hlt), List.getElem?_eq_getElem _⟩
      obtain ⟨b, off, rfl, hb, c0, c1⟩ := HL.out.at_ k x hx
      have HX := Lib.hid hx; clear hx
      by_cases he : (x.1.toList == nm.toList) = true
      · go_wp2
        go_ret
        exact ⟨ret_str (by rw [← HK.out, getL_yes HX.out he]), rfl⟩
      · have he' : (x.1.toList == nm.toList) = false := by simpa using he
        clear he
        go_wp2
        go_round
        case rel => exact ⟨k + 1, by omega, by go_num, by rw [← HK.out, getL_no HX.out he']; rfl⟩
        case measure => simp [intOf]; omega
    · go_wp2
      go_ret
      exact ⟨ret_str (by rw [← HK.out, List.drop_eq_nil_of_le (by rw [← HN.out]; omega)]; rfl), rfl⟩

set_option maxHeartbeats 400000 in
theorem get_any (A : Option Addr) (n c base : Nat) (l : List Lab) (nm : ByteArray) (w : World) (h : Labs w base (.slice A n c) l) :
    Calls Tryd.prog 86 #[.slice A n c, .string nm] w fun e w' => e = .returned (.string (getL l nm)) ∧ Below w.heap.size w w' := by
  obtain ⟨hn, hm⟩ := h.len
  have HN := Lib.hid hn; clear hn
  have HL := Lib.hid h; clear h
  go_enter Tryd.func86, Tryd.ntmps86
  go_wp2
  go_loopw [9] (fun i wr => ∃ k : Nat, k ≤ n ∧ i = .int .i64 k ∧ Below w.heap.size w wr ∧ Hid (getL (l.drop k) nm = getL l nm)) (fun i _ => n - (intOf i).toNat)
  case atStart => exact ⟨0, Nat.zero_le _, rfl, Below.refl _ _, rfl⟩
  case round =>
    obtain ⟨k, hk, rfl, hbw, HK⟩ := hrel
    have hsz := hbw.size
    by_cases hlt : k < n
    · obtain ⟨x, hx⟩ : ∃ x, l[k]? = some x := ⟨l[k]'(by rw [← HN.out]; exact hlt), List.getElem?_eq_getElem _⟩
      obtain ⟨b, off, rfl, hb, c0, c1⟩ := (HL.out.below hbw).at_ k x hx
      have HX := Lib.hid hx; clear hx
      have HB := Lib.hid hbw; clear hbw
      by_cases he : (x.1.toList == nm.toList) = true
      · go_wp2
        go_ret
        exact ⟨ret_str (by rw [← HK.out, getL_yes HX.out he]), HB.out.alloc hsz _⟩
      · have he' : (x.1.toList == nm.toList) = false := by simpa using he
        clear he
        go_wp2
        go_roundw
        case rel => exact ⟨k + 1, by omega, by go_num, HB.out.alloc hsz _, by rw [← HK.out, getL_no HX.out he']; rfl⟩
        case measure => simp [intOf]; omega
    · go_wp2
      go_ret
      exact ⟨ret_str (by rw [← HK.out, List.drop_eq_nil_of_le (by rw [← HN.out]; omega)]; rfl), hbw⟩
end
section
open Go.RowKit

def prefB (v p : ByteArray) : Bool := decide (p.size ≤ v.size) && ((v.extract 0 p.size).toList == p.toList)
def holdsB (m : Mat) (v : ByteArray) : Bool :=
  if m.2.1 = 0 then v.toList == m.2.2.toList else if m.2.1 = 1 then !(v.toList == m.2.2.toList) else if m.2.1 = 2 then prefB v m.2.2 else false
def matchB (l : List Lab) (ms : List Mat) : Bool := ms.all fun m => holdsB m (getL l m.1)
def vmatB (m : Mat) : Bool := nameB m.1 && (decide (0 ≤ m.2.1) && decide (m.2.1 ≤ 2)) && valueB m.2.2

theorem slpref_any (v p : ByteArray) (w : World) : Calls Tryd.prog 103 #[.string v, .string p] w fun e w' => e = .returned (.bool (prefB v p)) ∧ w = w' := by
  by_cases h : p.size ≤ v.size
  · have E : Hid (prefB v p = ((v.extract 0 p.size).toList == p.toList)) := by unfold prefB; rw [decide_eq_true h]; rfl
    go_enter Tryd.func103, Tryd.ntmps103
    go_wp2
    go_ret
    exact ⟨ret_bool (by rw [E.out]), rfl⟩
  · have E : Hid (prefB v p = false) := by unfold prefB; rw [decide_eq_false h]; rfl
    have h' : decide (p.size ≤ v.size) = false := by simpa using h
    go_enter Tryd.func103, Tryd.ntmps103
    go_wp2
    go_ret
    exact ⟨ret_bool (by rw [E.out]), rfl⟩
theorem pref_any (v p : ByteArray) (w : World) : Calls Tryd.prog 87 #[.string v, .string p] w fun e w' => e = .returned (.bool (prefB v p)) ∧ w = w' := by
  go_enter Tryd.func87, Tryd.ntmps87
  go_wp2_with (go_at_call 103; refine (slpref_any _ _ _).mono ?_; rintro e w' ⟨rfl, rfl⟩)
  go_ret
  exact ⟨rfl, rfl⟩

set_option maxHeartbeats 400000 in
theorem holds_any (m : Mat) (v : ByteArray) (w : World) :
    Calls Tryd.prog 109 #[.agg #[.string m.1, .int .i64 m.2.1, .string m.2.2], .string v] w fun e w' => e = .returned (.bool (holdsB m v)) ∧ Below w.heap.size w w' := by
  obtain ⟨nm, kd, vl⟩ := m
  simp only
  by_cases h0 : kd = 0
  · subst h0
    have E : Hid (holdsB (nm, 0, vl) v = (v.toList == vl.toList)) := by rfl
    go_enter Tryd.func109, Tryd.ntmps109
    go_wp2
    go_ret
    exact ⟨ret_bool (by rw [E.out]), (Below.refl _ _).alloc (Nat.le_refl _) _⟩
  by_cases h1 : kd = 1
  · subst h1
    have E : Hid (holdsB (nm, 1, vl) v = (!(v.toList == vl.toList))) := by rfl
    go_enter Tryd.func109, Tryd.ntmps109
    go_wp2
    go_ret
    exact ⟨ret_bool (by rw [E.out]), (Below.refl _ _).alloc (Nat.le_refl _) _⟩
  by_cases h2 : kd = 2
  · subst h2
    by_cases h : vl.size ≤ v.size
    · have E : Hid (holdsB (nm, 2, vl) v = ((v.extract 0 vl.size).toList == vl.toList)) := by
        show prefB v vl = _
        unfold prefB; rw [decide_eq_true h]; rfl
      go_enter Tryd.func109, Tryd.ntmps109
      go_wp2
      go_quiet (fail)
      go_wp2
      go_ret
      exact ⟨ret_bool (by rw [E.out]), Go.below_drewN ((Below.refl _ _).alloc (Nat.le_refl _) _) _⟩
    · have E : Hid (holdsB (nm, 2, vl) v = false) := by
        show prefB v vl = _
        unfold prefB; rw [decide_eq_false h]; rfl
      have h' : decide (vl.size ≤ v.size) = false := by simpa using h
      go_enter Tryd.func109, Tryd.ntmps109
      go_wp2
      go_quiet (fail)
      go_wp2
      go_ret
      exact ⟨ret_bool (by rw [E.out]), Go.below_drewN ((Below.refl _ _).alloc (Nat.le_refl _) _) _⟩
  · have E : Hid (holdsB (nm, kd, vl) v = false) := by
      show (if kd = 0 then _ else if kd = 1 then _ else if kd = 2 then _ else _) = _
      rw [if_neg h0, if_neg h1, if_neg h2]
    have h0' : (kd == 0) = false := by simpa using h0
    have h1' : (kd == 1) = false := by simpa using h1
    have h2' : (kd == 2) = false := by simpa using h2
    clear h0 h1 h2
    go_enter Tryd.func109, Tryd.ntmps109
    go_wp2
    go_ret
    exact ⟨ret_bool (by rw [E.out]), (Below.refl _ _).alloc (Nat.le_refl _) _⟩

theorem matchB_yes {l : List Lab} {ms : List Mat} {k : Nat} {x : Mat} (hk : ms[k]? = some x) (h : holdsB x (getL l x.1) = true) : matchB l (ms.drop k) = matchB l (ms.drop (k + 1)) := by
  obtain ⟨hlt, e⟩ := List.getElem?_eq_some_iff.1 hk
  rw [List.drop_eq_getElem_cons hlt, e]
  simp [matchB, h]
theorem matchB_no {l : List Lab} {ms : List Mat} {k : Nat} {x : Mat} (hk : ms[k]? = some x) (h : holdsB x (getL l x.1) = false) : matchB l (ms.drop k) = false := by
  obtain ⟨hlt, e⟩ := List.getElem?_eq_some_iff.1 hk
  rw [List.drop_eq_getElem_cons hlt, e]
  simp [matchB, h]

set_option maxHeartbeats 400000 in
theorem rmatch_any (A : Option Addr) (n c : Nat) (A' : Option Addr) (n' c' base : Nat) (l : List Lab) (ms : List Mat) (w : World) (h : Labs w base (.slice A n c) l) (h' : Mats w base (.slice A' n' c') ms) :
    Calls Tryd.prog 98 #[.slice A n c, .slice A' n' c'] w fun e w' => e = .returned (.bool (matchB l ms)) ∧ Below w.heap.size w w' := by
  obtain ⟨hn, hm⟩ := h'.len
  have HN := Lib.hid hn; clear hn
  have HL := Lib.hid h; clear h
  have HM := Lib.hid h'; clear h'
  go_enter Tryd.func98, Tryd.ntmps98
  go_wp2
  go_loopw [5] (fun i wr => ∃ k : Nat, k ≤ n' ∧ i = .int .i64 k ∧ Below w.heap.size w wr ∧ Hid (matchB l (ms.drop k) = matchB l ms)) (fun i _ => n' - (intOf i).toNat)
  case atStart => exact ⟨0, Nat.zero_le _, rfl, Below.refl _ _, rfl⟩
  case round =>
    obtain ⟨k, hk, rfl, hbw, HK⟩ := hrel
    have hsz := hbw.size
    by_cases hlt : k < n'
    · obtain ⟨x, hx⟩ : ∃ x, ms[k]? = some x := ⟨ms[k]'(by rw [← HN.out]; exact hlt), List.getElem?_eq_getElem _⟩
      obtain ⟨b, off, rfl, hb, c0, c1, c2⟩ := (HM.out.below hbw).at_ k x hx
      have HX := Lib.hid hx; clear hx
      have HLr := Lib.hid (HL.out.below hbw)
      have HB := Lib.hid hbw; clear hbw
      obtain ⟨x0, x1, x2⟩ := x
      go_wp2
      go_region_held3 (fun w' => w'.cell? ⟨b, off + k * 3, none⟩ = some (.string x0) ∧ w'.cell? ⟨b, off + k * 3 + 1, none⟩ = some (.int .i64 x1) ∧ w'.cell? ⟨b, off + k * 3 + 2, none⟩ = some (.string x2)) (first | go_keep | exact ⟨bat hb1 hb c0, bat hb1 hb c1, bat hb1 hb c2⟩)
        (first | (go_at_call 110; refine (rget_any _ _ _ base l _ _ (by exact HLr.out)).mono ?_; rintro e w' ⟨rfl, rfl⟩) | (go_at_call 109; refine (holds_any (x0, x1, x2) _ _).mono ?_; rintro e w' ⟨rfl, hb1⟩))
      have HB1 : Hid (Below w.heap.size w w') := HB.out.drew.trans (hb1.mono hsz)
      clear hb1
      go_wp2
      · have q : (!holdsB (x0, x1, x2) (getL l x0)) = true := by assumption
        go_ret
        exact ⟨ret_bool (by rw [← HK.out, matchB_no HX.out (by simpa using q)]), HB1.out⟩
      · have q : (!holdsB (x0, x1, x2) (getL l x0)) = false := by assumption
        go_roundw
        case rel => exact ⟨k + 1, by omega, by go_num, HB1.out, (matchB_yes HX.out (by simpa using q)).symm.trans HK.out⟩
        case measure => simp [intOf]; omega
    · go_wp2
      go_ret
      exact ⟨ret_bool (by rw [← HK.out, List.drop_eq_nil_of_le (by rw [← HN.out]; omega)]; rfl), hbw⟩

set_option maxHeartbeats 1000000 in
theorem match_any (A : Option Addr) (n c : Nat) (A' : Option Addr) (n' c' base : Nat) (l : List Lab) (ms : List Mat) (w : World) (h : Labs w base (.slice A n c) l) (h' : Mats w base (.slice A' n' c') ms) :
    Calls Tryd.prog 70 #[.slice A n c, .slice A' n' c'] w fun e w' => e = .returned (.bool (matchB l ms)) ∧ Below w.heap.size w w' := by
  obtain ⟨hn, hm⟩ := h'.len
  have HN := Lib.hid hn; clear hn
  have HL := Lib.hid h; clear h
  have HM := Lib.hid h'; clear h'
  go_enter Tryd.func70, Tryd.ntmps70
  go_wp2
  go_loopw [11] (fun i wr => ∃ k : Nat, k ≤ n' ∧ i = .int .i64 k ∧ Below w.heap.size w wr ∧ Hid (matchB l (ms.drop k) = matchB l ms)) (fun i _ => n' - (intOf i).toNat)
  case atStart => exact ⟨0, Nat.zero_le _, rfl, Below.refl _ _, rfl⟩
  case round =>
    obtain ⟨k, hk, rfl, hbw, HK⟩ := hrel
    have hsz := hbw.size
    by_cases hlt : k < n'
    · obtain ⟨x, hx⟩ : ∃ x, ms[k]? = some x := ⟨ms[k]'(by rw [← HN.out]; exact hlt), List.getElem?_eq_getElem _⟩
      obtain ⟨b, off, rfl, hb, c0, c1, c2⟩ := (HM.out.below hbw).at_ k x hx
      have HX := Lib.hid hx; clear hx
      have HLr := Lib.hid (HL.out.below hbw)
      have HB := Lib.hid hbw; clear hbw
      obtain ⟨x0, x1, x2⟩ := x
      by_cases h0 : x1 = 0
      · subst h0
        have E : Hid (holdsB (x0, 0, x2) (getL l x0) = ((getL l x0).toList == x2.toList)) := by rfl
        go_wp2_with (first | (go_at_call 86; refine (get_any _ _ _ base l _ _ (by exact HLr.out.below ((Below.refl _ _).alloc (Nat.le_refl _) _))).mono ?_; rintro e w' ⟨rfl, hb1⟩; obtain ⟨hc1, hf1⟩ := bcell hb1; have hz1 := hb1.size; have HB2 : Hid (Below w.heap.size w w') := (HB.out.alloc hsz _).trans (hb1.mono (by simp; omega)); clear hb1) | (go_at_call 87; refine (pref_any _ _ _).mono ?_; rintro e w' ⟨rfl, rfl⟩))
        · have q : (!(getL l x0).toList == x2.toList) = true := by assumption
          go_ret
          exact ⟨ret_bool (by rw [← HK.out, matchB_no HX.out (by rw [E.out]; simpa using q)]), HB2.out⟩
        · have q : (!(getL l x0).toList == x2.toList) = false := by assumption
          go_roundw
          case rel => exact ⟨k + 1, by omega, by go_num, HB2.out, (matchB_yes HX.out (by rw [E.out]; simpa using q)).symm.trans HK.out⟩
          case measure => simp [intOf]; omega
      by_cases h1 : x1 = 1
      · subst h1
        have E : Hid (holdsB (x0, 1, x2) (getL l x0) = (!(getL l x0).toList == x2.toList)) := by rfl
        go_wp2_with (first | (go_at_call 86; refine (get_any _ _ _ base l _ _ (by exact HLr.out.below ((Below.refl _ _).alloc (Nat.le_refl _) _))).mono ?_; rintro e w' ⟨rfl, hb1⟩; obtain ⟨hc1, hf1⟩ := bcell hb1; have hz1 := hb1.size; have HB2 : Hid (Below w.heap.size w w') := (HB.out.alloc hsz _).trans (hb1.mono (by simp; omega)); clear hb1) | (go_at_call 87; refine (pref_any _ _ _).mono ?_; rintro e w' ⟨rfl, rfl⟩))
        · have q : ((getL l x0).toList == x2.toList) = true := by assumption
          go_ret
          exact ⟨ret_bool (by rw [← HK.out, matchB_no HX.out (by rw [E.out]; simpa using q)]), HB2.out⟩
        · have q : ((getL l x0).toList == x2.toList) = false := by assumption
          go_roundw
          case rel => exact ⟨k + 1, by omega, by go_num, HB2.out, (matchB_yes HX.out (by rw [E.out]; simpa using q)).symm.trans HK.out⟩
          case measure => simp [intOf]; omega
      by_cases h2 : x1 = 2
      · subst h2
        have E : Hid (holdsB (x0, 2, x2) (getL l x0) = prefB (getL l x0) x2) := by rfl
        go_wp2_with (first | (go_at_call 86; refine (get_any _ _ _ base l _ _ (by exact HLr.out.below ((Below.refl _ _).alloc (Nat.le_refl _) _))).mono ?_; rintro e w' ⟨rfl, hb1⟩; obtain ⟨hc1, hf1⟩ := bcell hb1; have hz1 := hb1.size; have HB2 : Hid (Below w.heap.size w w') := (HB.out.alloc hsz _).trans (hb1.mono (by simp; omega)); clear hb1) | (go_at_call 87; refine (pref_any _ _ _).mono ?_; rintro e w' ⟨rfl, rfl⟩))
        · have q : (!prefB (getL l x0) x2) = true := by assumption
          go_ret
          exact ⟨ret_bool (by rw [← HK.out, matchB_no HX.out (by rw [E.out]; simpa using q)]), HB2.out⟩
        · have q : (!prefB (getL l x0) x2) = false := by assumption
          go_roundw
          case rel => exact ⟨k + 1, by omega, by go_num, HB2.out, (matchB_yes HX.out (by rw [E.out]; simpa using q)).symm.trans HK.out⟩
          case measure => simp [intOf]; omega
      · have E : Hid (holdsB (x0, x1, x2) (getL l x0) = false) := by
          show (if x1 = 0 then _ else if x1 = 1 then _ else if x1 = 2 then _ else _) = _
          rw [if_neg h0, if_neg h1, if_neg h2]
        have h0' : (x1 == 0) = false := by simpa using h0
        have h1' : (x1 == 1) = false := by simpa using h1
        have h2' : (x1 == 2) = false := by simpa using h2
        clear h0 h1 h2
        go_wp2_with (first | (go_at_call 86; refine (get_any _ _ _ base l _ _ (by exact HLr.out.below ((Below.refl _ _).alloc (Nat.le_refl _) _))).mono ?_; rintro e w' ⟨rfl, hb1⟩; obtain ⟨hc1, hf1⟩ := bcell hb1; have hz1 := hb1.size; have HB2 : Hid (Below w.heap.size w w') := (HB.out.alloc hsz _).trans (hb1.mono (by simp; omega)); clear hb1) | (go_at_call 87; refine (pref_any _ _ _).mono ?_; rintro e w' ⟨rfl, rfl⟩))
        go_ret
        exact ⟨ret_bool (by rw [← HK.out, matchB_no HX.out E.out]), HB2.out⟩
    · go_wp2
      go_ret
      exact ⟨ret_bool (by rw [← HK.out, List.drop_eq_nil_of_le (by rw [← HN.out]; omega)]; rfl), hbw⟩
end
section
open Go.RowKit FracM

/-- a node without its kids -/
structure Nd where
  kind : Int
  fn : Int
  win : Int
  off : Int
  k : Int
  num : Int
  den : Int
  name : ByteArray
  ms : List Mat
  bys : List ByteArray

inductive Tree where
  | node (d : Nd) (ks : List Tree)

def Tree.d : Tree → Nd
  | .node d _ => d
def Tree.ks : Tree → List Tree
  | .node _ ks => ks
theorem Tree.ind {M : Tree → Prop} (h : ∀ d ks, (∀ t ∈ ks, M t) → M (.node d ks)) : ∀ t, M t
  | .node d ks => h d ks (fun t _ => Tree.ind h t)

mutual
def cnt : Tree → Int → Int → Int
  | .node _ ks, dp, l => cntL ks (dp + 1) (if 12 < dp then -1 else l - 1)
def cntL : List Tree → Int → Int → Int
  | [], _, l => l
  | t :: ts, dp, l => if l < 0 then l else cntL ts dp (cnt t dp l)
end
mutual
def dep : Tree → Nat
  | .node _ ks => depL ks + 1
def depL : List Tree → Nat
  | [] => 0
  | t :: ts => max (dep t) (depL ts)
end
mutual
def nds : Tree → Nat
  | .node _ ks => ndsL ks + 1
def ndsL : List Tree → Nat
  | [] => 0
  | t :: ts => nds t + ndsL ts
end
theorem cntL_neg (ts : List Tree) (dp l : Int) (h : l < 0) : cntL ts dp l = l := by
  cases ts with
  | nil => rw [cntL]
  | cons t ts => rw [cntL, if_pos h]
def CntOk (t : Tree) : Prop := ∀ (dp l : Int), 0 ≤ l → ((nds t : Int) ≤ l ∧ dp + dep t ≤ 13 → cnt t dp l = l - nds t) ∧ (¬ ((nds t : Int) ≤ l ∧ dp + dep t ≤ 13) → cnt t dp l < 0)
theorem cntL_ok (ts : List Tree) (H : ∀ t ∈ ts, CntOk t) : ∀ (dp l : Int), 0 ≤ l → dp ≤ 13 → ((ndsL ts : Int) ≤ l ∧ dp + depL ts ≤ 13 → cntL ts dp l = l - ndsL ts) ∧ (¬ ((ndsL ts : Int) ≤ l ∧ dp + depL ts ≤ 13) → cntL ts dp l < 0) := by
  induction ts with
  | nil => intro dp l h0 h1; rw [cntL, ndsL, depL]; constructor <;> intro h <;> omega
  | cons t ts ih =>
    intro dp l h0 h1
    rw [cntL, if_neg (by omega), ndsL, depL]
    obtain ⟨h2, h3⟩ := H t (by simp) dp l h0
    have ih' := ih (fun x hx => H x (by simp [hx])) dp
    by_cases hc : (nds t : Int) ≤ l ∧ dp + dep t ≤ 13
    · rw [h2 hc]
      obtain ⟨i1, i2⟩ := ih' (l - nds t) (by omega) h1
      constructor
      · intro h; rw [i1 (by omega)]; omega
      · intro h; exact i2 (by omega)
    · have := h3 hc
      rw [cntL_neg _ _ _ this]
      constructor
      · intro h; omega
      · intro h; exact this
theorem cnt_ok : ∀ t, CntOk t := Tree.ind fun d ks ih dp l h0 => by
  rw [cnt, nds, dep]
  by_cases h : 12 < dp
  · rw [if_pos h, cntL_neg _ _ _ (by omega)]
    constructor <;> intro h <;> omega
  · rw [if_neg h]
    by_cases hl : l = 0
    · subst hl
      rw [cntL_neg _ _ _ (by omega)]
      constructor <;> intro h <;> omega
    · obtain ⟨h1, h2⟩ := cntL_ok ks ih (dp + 1) (l - 1) (by omega) (by omega)
      constructor
      · intro h; rw [h1 (by omega)]; omega
      · intro h; exact h2 (by omega)
def fitB (t : Tree) : Bool := decide (nds t ≤ 200) && decide (dep t ≤ 12)
theorem fit_eq (t : Tree) : decide (0 ≤ cnt t 1 200) = fitB t := by
  obtain ⟨h1, h2⟩ := cnt_ok t 1 200 (by omega)
  unfold fitB
  by_cases h : (nds t : Int) ≤ 200 ∧ (1 : Int) + dep t ≤ 13
  · have := h1 h
    rw [decide_eq_true (show 0 ≤ cnt t 1 200 by omega), decide_eq_true (show nds t ≤ 200 by omega), decide_eq_true (show dep t ≤ 12 by omega)]; rfl
  · have := h2 h
    rw [decide_eq_false (show ¬ 0 ≤ cnt t 1 200 by omega)]
    by_cases h3 : nds t ≤ 200
    · rw [decide_eq_false (show ¬ dep t ≤ 12 by omega)]; simp
    · rw [decide_eq_false h3]; simp

/-- the words of the groups -/
def groupsL : List ByteArray := [⟨#[115, 117, 109]⟩, ⟨#[109, 105, 110]⟩, ⟨#[109, 97, 120]⟩, ⟨#[99, 111, 117, 110, 116]⟩, ⟨#[107, 116, 104]⟩]
def inGroups (s : ByteArray) : Bool := groupsL.any fun x => x.toList == s.toList
def noSelB (d : Nd) : Bool := d.win == 0 && d.off == 0 && d.name.toList.isEmpty && d.ms.isEmpty
def noNumB (d : Nd) : Bool := d.num == 0 && d.den == 0
def shapedB (d : Nd) (n : Nat) : Bool :=
  if d.kind = 0 then d.fn == 0 && n == 0 && noSelB d && d.k == 0 && d.bys.isEmpty && validB d.num d.den
  else if d.kind = 1 then decide (0 ≤ d.fn) && decide (d.fn ≤ 7) && n == 0 && noNumB d && d.bys.isEmpty
  else if d.kind = 2 then decide (0 ≤ d.fn) && decide (d.fn ≤ 4) && n == 1 && noNumB d && noSelB d
  else if d.kind = 3 then decide (0 ≤ d.fn) && decide (d.fn ≤ 3) && n == 2 && noNumB d && noSelB d && d.k == 0 && d.bys.isEmpty
  else false
def rangedB (d : Nd) : Bool :=
  if d.kind = 1 then
    decide (0 ≤ d.off) && decide (d.off ≤ 4096) && (if d.fn = 0 then d.win == 0 && d.k == 0 else decide (1 ≤ d.win) && decide (d.win ≤ 4096) && (if d.fn = 7 then decide (1 ≤ d.k) && decide (d.k ≤ d.win) else d.k == 0))
  else if d.kind = 2 then (if d.fn = 4 then decide (1 ≤ d.k) && decide (d.k ≤ 4096) else d.k == 0)
  else true
/-- the order of strings, as the program compares them -/
def leS (a b : ByteArray) : Bool := Op.bytesLess a.toList b.toList || (a.toList == b.toList)
/-- the names of a by clause, behind a name -/
def bysFrom (prev : Option ByteArray) : List ByteArray → Bool
  | [] => true
  | x :: xs => nameB x && !(match prev with | none => false | some p => leS x p) && bysFrom (some x) xs
def bysB (l : List ByteArray) : Bool := bysFrom none l
def namedB (d : Nd) : Bool := (!(d.kind == 1) || (nameB d.name && !inGroups d.name)) && d.ms.all vmatB && bysB d.bys
def chk1 (d : Nd) (n : Nat) : Int :=
  if shapedB d n = false then 1 else if namedB d = false then 8 else if 8 < d.ms.length ∨ 8 < d.bys.length then 4 else if rangedB d = false then 5 else 0
mutual
def chk : Tree → Int
  | .node d ks => if chk1 d ks.length = 0 then chkL ks else chk1 d ks.length
def chkL : List Tree → Int
  | [] => 0
  | t :: ts => if chk t = 0 then chkL ts else chk t
end
theorem chkL_ok {ts : List Tree} (h : chkL ts = 0) : ∀ t ∈ ts, chk t = 0 := by
  induction ts with
  | nil => intro t ht; cases ht
  | cons x ts ih =>
    intro t ht
    rw [chkL] at h
    by_cases hx : chk x = 0
    · rw [if_pos hx] at h
      rcases List.mem_cons.1 ht with rfl | ht
      · exact hx
      · exact ih h t ht
    · rw [if_neg hx] at h; exact absurd h hx
theorem chk_ok {d : Nd} {ks : List Tree} (h : chk (.node d ks) = 0) : chk1 d ks.length = 0 ∧ ∀ t ∈ ks, chk t = 0 := by
  rw [chk] at h
  by_cases hx : chk1 d ks.length = 0
  · rw [if_pos hx] at h; exact ⟨hx, chkL_ok h⟩
  · rw [if_neg hx] at h; exact absurd h hx
theorem chk1_shape {d : Nd} {n : Nat} (h : chk1 d n = 0) : shapedB d n = true := by
  unfold chk1 at h
  cases hs : shapedB d n
  · rw [hs] at h; simp at h
  · rfl
theorem shape_cases {d : Nd} {n : Nat} (h : shapedB d n = true) : (d.kind = 0 ∧ n = 0) ∨ (d.kind = 1 ∧ n = 0 ∧ 0 ≤ d.fn ∧ d.fn ≤ 7) ∨ (d.kind = 2 ∧ n = 1 ∧ 0 ≤ d.fn ∧ d.fn ≤ 4) ∨ (d.kind = 3 ∧ n = 2 ∧ 0 ≤ d.fn ∧ d.fn ≤ 3) := by
  unfold shapedB at h
  by_cases h0 : d.kind = 0
  · rw [if_pos h0] at h; simp at h; exact .inl ⟨h0, by omega⟩
  rw [if_neg h0] at h
  by_cases h1 : d.kind = 1
  · rw [if_pos h1] at h; simp at h; exact .inr (.inl ⟨h1, by omega, by omega, by omega⟩)
  rw [if_neg h1] at h
  by_cases h2 : d.kind = 2
  · rw [if_pos h2] at h; simp at h; exact .inr (.inr (.inl ⟨h2, by omega, by omega, by omega⟩))
  rw [if_neg h2] at h
  by_cases h3 : d.kind = 3
  · rw [if_pos h3] at h; simp at h; exact .inr (.inr (.inr ⟨h3, by omega, by omega, by omega⟩))
  rw [if_neg h3] at h; cases h
def validE (t : Tree) : Int := if fitB t = false then 4 else chk t

mutual
def rlB : Tree → Bool
  | .node d ks => if d.kind = 0 then true else if d.kind = 3 then rlL ks else false
def rlL : List Tree → Bool
  | [] => true
  | t :: ts => rlB t && rlL ts
end
def starS : ByteArray := ⟨#[42]⟩
mutual
def rw1 : Tree → List ByteArray
  | .node d ks => if d.kind = 1 then [starS] else if d.kind = 2 then d.bys else rwL ks
def rwL : List Tree → List ByteArray
  | [] => []
  | t :: ts => if rlB t then rwL ts else rw1 t
end

abbrev U3 := Int × Int × Int
def u0 : U3 := (0, 0, 0)
def in3 (x : Int) : Bool := decide (-3 ≤ x) && decide (x ≤ 3)
def okU (u : U3) : Bool := in3 u.1 && in3 u.2.1 && in3 u.2.2
def addU (a b : U3) : U3 := (W64 (a.1 + b.1), W64 (a.2.1 + b.2.1), W64 (a.2.2 + b.2.2))
def subU (a b : U3) : U3 := (W64 (a.1 - b.1), W64 (a.2.1 - b.2.1), W64 (a.2.2 - b.2.2))
def limU (u : U3) : U3 × Int := if okU u then (u, 0) else (u0, 4)
/-- a declaration: its name, labels and unit -/
abbrev Dc := ByteArray × List Lab × U3
def hitB (d : Nd) (x : Dc) : Bool := (x.1.toList == d.name.toList) && matchB x.2.1 d.ms
def hits (D : List Dc) (d : Nd) : List U3 := (D.filter (hitB d)).map (·.2.2)
def selU (us : List U3) (fn : Int) : U3 × Int :=
  match us with
  | [] => (u0, 8)
  | u :: us => if (u :: us).all okU = false then (u0, 4) else if us.all (fun x => x == u) = false then (u0, 7) else limU (if fn = 6 then (u.1, u.2.1, W64 (u.2.2 - 1)) else u)
def selM (D : List Dc) (d : Nd) : U3 × Int := selU (hits D d) d.fn
def binM (d : Nd) (ks : List Tree) (us : List U3) : U3 × Int :=
  match ks, us with
  | [a, b], [x, y] =>
    if rlB a = false ∧ rlB b = false ∧ rw1 a ≠ rw1 b then (u0, 7)
    else if d.fn = 2 then limU (addU x y) else if d.fn = 3 then limU (subU x y) else if x = y then (x, 0) else (u0, 7)
  | _, _ => (u0, 0)
def finM (D : List Dc) (d : Nd) (ks : List Tree) (us : List U3) : U3 × Int :=
  if d.kind = 1 then selM D d
  else if d.kind = 2 then (if rlL ks then (u0, 7) else if d.fn = 3 then (u0, 0) else (us.headD u0, 0))
  else if d.kind = 3 then binM d ks us
  else (u0, 0)
mutual
def unitM (D : List Dc) : Tree → U3 × Int
  | .node d ks => if (unitL D ks).2 = 0 then finM D d ks (unitL D ks).1 else (u0, (unitL D ks).2)
def unitL (D : List Dc) : List Tree → List U3 × Int
  | [] => ([], 0)
  | t :: ts => if (unitM D t).2 = 0 then ((unitM D t).1 :: (unitL D ts).1, (unitL D ts).2) else ([], (unitM D t).2)
end
def ofM (D : List Dc) (t : Tree) : U3 × Int := if validE t = 0 then unitM D t else (u0, validE t)
end
section
open Go.RowKit


set_option maxHeartbeats 1000000 in
theorem vmat_any (nm vl : ByteArray) (kd : Int) (w : World) (hs1 : nm.size ≤ maxLen) (hs2 : vl.size ≤ maxLen) :
    Calls Tryd.prog 85 #[.agg #[.string nm, .int .i64 kd, .string vl]] w fun e w' => e = .returned (.bool (vmatB (nm, kd, vl))) ∧ Below w.heap.size w w' := by
  by_cases hk : 0 ≤ kd ∧ kd ≤ 2
  · have hk3 : kd = 0 ∨ kd = 1 ∨ kd = 2 := by omega
    clear hk
    by_cases hn : nameB nm = true
    · rcases hk3 with rfl | rfl | rfl
      · have E : Hid (vmatB (nm, 0, vl) = valueB vl) := by simp [vmatB, hn, Hid]
        go_enter Tryd.func85, Tryd.ntmps85
        go_wp2_with (first | (go_at_call 83; refine (name_any _ _ hs1).mono ?_; rintro e w1 ⟨rfl, hb1⟩; obtain ⟨hc1, hf1⟩ := bcell hb1; have hz1 := hb1.size; have HB : Hid (Below w.heap.size w w1) := (bel1 _ _).trans (hb1.mono (by simp)); clear hb1) | (go_at_call 102; refine (value_any _ _ hs2).mono ?_; rintro e w2 ⟨rfl, hb2⟩; have HB2 : Hid (Below w.heap.size w w2) := HB.out.trans (hb2.mono HB.out.size); clear hb2))
        go_ret
        exact ⟨ret_bool (by rw [E.out]), HB2.out⟩
      · have E : Hid (vmatB (nm, 1, vl) = valueB vl) := by simp [vmatB, hn, Hid]
        go_enter Tryd.func85, Tryd.ntmps85
        go_wp2_with (first | (go_at_call 83; refine (name_any _ _ hs1).mono ?_; rintro e w1 ⟨rfl, hb1⟩; obtain ⟨hc1, hf1⟩ := bcell hb1; have hz1 := hb1.size; have HB : Hid (Below w.heap.size w w1) := (bel1 _ _).trans (hb1.mono (by simp)); clear hb1) | (go_at_call 102; refine (value_any _ _ hs2).mono ?_; rintro e w2 ⟨rfl, hb2⟩; have HB2 : Hid (Below w.heap.size w w2) := HB.out.trans (hb2.mono HB.out.size); clear hb2))
        go_ret
        exact ⟨ret_bool (by rw [E.out]), HB2.out⟩
      · have E : Hid (vmatB (nm, 2, vl) = valueB vl) := by simp [vmatB, hn, Hid]
        go_enter Tryd.func85, Tryd.ntmps85
        go_wp2_with (first | (go_at_call 83; refine (name_any _ _ hs1).mono ?_; rintro e w1 ⟨rfl, hb1⟩; obtain ⟨hc1, hf1⟩ := bcell hb1; have hz1 := hb1.size; have HB : Hid (Below w.heap.size w w1) := (bel1 _ _).trans (hb1.mono (by simp)); clear hb1) | (go_at_call 102; refine (value_any _ _ hs2).mono ?_; rintro e w2 ⟨rfl, hb2⟩; have HB2 : Hid (Below w.heap.size w w2) := HB.out.trans (hb2.mono HB.out.size); clear hb2))
        go_ret
        exact ⟨ret_bool (by rw [E.out]), HB2.out⟩
    · have hn' : nameB nm = false := by simpa using hn
      clear hn
      rcases hk3 with rfl | rfl | rfl
      · have E : Hid (vmatB (nm, 0, vl) = false) := by simp [vmatB, hn', Hid]
        go_enter Tryd.func85, Tryd.ntmps85
        go_wp2_with (first | (go_at_call 83; refine (name_any _ _ hs1).mono ?_; rintro e w1 ⟨rfl, hb1⟩; obtain ⟨hc1, hf1⟩ := bcell hb1; have hz1 := hb1.size; have HB : Hid (Below w.heap.size w w1) := (bel1 _ _).trans (hb1.mono (by simp)); clear hb1) | (go_at_call 102; refine (value_any _ _ hs2).mono ?_; rintro e w2 ⟨rfl, hb2⟩; have HB2 : Hid (Below w.heap.size w w2) := HB.out.trans (hb2.mono HB.out.size); clear hb2))
        go_ret
        exact ⟨ret_bool (by rw [E.out]), HB.out⟩
      · have E : Hid (vmatB (nm, 1, vl) = false) := by simp [vmatB, hn', Hid]
        go_enter Tryd.func85, Tryd.ntmps85
        go_wp2_with (first | (go_at_call 83; refine (name_any _ _ hs1).mono ?_; rintro e w1 ⟨rfl, hb1⟩; obtain ⟨hc1, hf1⟩ := bcell hb1; have hz1 := hb1.size; have HB : Hid (Below w.heap.size w w1) := (bel1 _ _).trans (hb1.mono (by simp)); clear hb1) | (go_at_call 102; refine (value_any _ _ hs2).mono ?_; rintro e w2 ⟨rfl, hb2⟩; have HB2 : Hid (Below w.heap.size w w2) := HB.out.trans (hb2.mono HB.out.size); clear hb2))
        go_ret
        exact ⟨ret_bool (by rw [E.out]), HB.out⟩
      · have E : Hid (vmatB (nm, 2, vl) = false) := by simp [vmatB, hn', Hid]
        go_enter Tryd.func85, Tryd.ntmps85
        go_wp2_with (first | (go_at_call 83; refine (name_any _ _ hs1).mono ?_; rintro e w1 ⟨rfl, hb1⟩; obtain ⟨hc1, hf1⟩ := bcell hb1; have hz1 := hb1.size; have HB : Hid (Below w.heap.size w w1) := (bel1 _ _).trans (hb1.mono (by simp)); clear hb1) | (go_at_call 102; refine (value_any _ _ hs2).mono ?_; rintro e w2 ⟨rfl, hb2⟩; have HB2 : Hid (Below w.heap.size w w2) := HB.out.trans (hb2.mono HB.out.size); clear hb2))
        go_ret
        exact ⟨ret_bool (by rw [E.out]), HB.out⟩
  · have E : Hid (vmatB (nm, kd, vl) = false) := by simp [vmatB, Hid]; omega
    have h0' : (kd == 0) = false := by simp; omega
    have h1' : (kd == 1) = false := by simp; omega
    have h2' : (kd == 2) = false := by simp; omega
    clear hk
    go_enter Tryd.func85, Tryd.ntmps85
    go_wp2_with (first | (go_at_call 83; refine (name_any _ _ hs1).mono ?_; rintro e w1 ⟨rfl, hb1⟩; obtain ⟨hc1, hf1⟩ := bcell hb1; have hz1 := hb1.size; have HB : Hid (Below w.heap.size w w1) := (bel1 _ _).trans (hb1.mono (by simp)); clear hb1) | (go_at_call 102; refine (value_any _ _ hs2).mono ?_; rintro e w2 ⟨rfl, hb2⟩; have HB2 : Hid (Below w.heap.size w w2) := HB.out.trans (hb2.mono HB.out.size); clear hb2))
    go_ret
    exact ⟨ret_bool (by rw [E.out]), bel1 _ _⟩

set_option maxHeartbeats 1000000 in
theorem rvmat_any (nm vl : ByteArray) (kd : Int) (w : World) (hs1 : nm.size ≤ maxLen) (hs2 : vl.size ≤ maxLen) :
    Calls Tryd.prog 97 #[.agg #[.string nm, .int .i64 kd, .string vl]] w fun e w' => e = .returned (.bool (vmatB (nm, kd, vl))) ∧ Below w.heap.size w w' := by
  by_cases hn : nameB nm = true
  · by_cases hk : 0 ≤ kd
    · by_cases hk2 : kd ≤ 2
      · have E : Hid (vmatB (nm, kd, vl) = valueB vl) := by simp [vmatB, hn, hk, hk2, Hid]
        go_enter Tryd.func97, Tryd.ntmps97
        go_wp2_with (first | (go_at_call 94; refine (rname_any _ _ hs1).mono ?_; rintro e w1 ⟨rfl, rfl⟩) | (go_at_call 108; refine (rvalue_any _ _ hs2).mono ?_; rintro e w2 ⟨rfl, rfl⟩))
        go_ret
        exact ⟨ret_bool (by rw [E.out]), bel1 _ _⟩
      · have E : Hid (vmatB (nm, kd, vl) = false) := by simp [vmatB, hk2, Hid]
        go_enter Tryd.func97, Tryd.ntmps97
        go_wp2_with (first | (go_at_call 94; refine (rname_any _ _ hs1).mono ?_; rintro e w1 ⟨rfl, rfl⟩) | (go_at_call 108; refine (rvalue_any _ _ hs2).mono ?_; rintro e w2 ⟨rfl, rfl⟩))
        go_ret
        exact ⟨ret_bool (by rw [E.out]), bel1 _ _⟩
    · have E : Hid (vmatB (nm, kd, vl) = false) := by simp [vmatB, hk, Hid]
      go_enter Tryd.func97, Tryd.ntmps97
      go_wp2_with (first | (go_at_call 94; refine (rname_any _ _ hs1).mono ?_; rintro e w1 ⟨rfl, rfl⟩) | (go_at_call 108; refine (rvalue_any _ _ hs2).mono ?_; rintro e w2 ⟨rfl, rfl⟩))
      go_ret
      exact ⟨ret_bool (by rw [E.out]), bel1 _ _⟩
  · have hn' : nameB nm = false := by simpa using hn
    clear hn
    have E : Hid (vmatB (nm, kd, vl) = false) := by simp [vmatB, hn', Hid]
    go_enter Tryd.func97, Tryd.ntmps97
    go_wp2_with (first | (go_at_call 94; refine (rname_any _ _ hs1).mono ?_; rintro e w1 ⟨rfl, rfl⟩) | (go_at_call 108; refine (rvalue_any _ _ hs2).mono ?_; rintro e w2 ⟨rfl, rfl⟩))
    go_ret
    exact ⟨ret_bool (by rw [E.out]), bel1 _ _⟩
end
end Go.Proofs.YtgomgoacponbkaaDoor
