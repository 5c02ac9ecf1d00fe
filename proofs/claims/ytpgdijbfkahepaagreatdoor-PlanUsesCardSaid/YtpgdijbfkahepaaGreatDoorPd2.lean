/- Contracts, packed: Bk Str. -/
import Derived.Test.YtpgdijbfkahepaaGreatDoorPd1
set_option linter.unusedVariables false
set_option linter.unusedSimpArgs false
namespace Go.Proofs.YtpgdijbfkahepaaGreatDoor
section
open Go.RowKit
/-- a fact put away: no tactic sees through it (a sum with a great numeral in an open fact, or behind Hid, ends in 'maximum recursion depth') -/
structure Box (p : Prop) : Prop where
 out : p
theorem bel1 (w : World) (o : Obj) : Below w.heap.size w (w.alloc o) := (Below.refl _ _).alloc (Nat.le_refl _) _
theorem bdrew {B : Nat} {w w' : World} (h : Below B w w') (n : Nat) : Below B w (w'.drewN n) := ⟨h.os, h.tape, h.output, h.size, h.block⟩
theorem below_drewN (w : World) (n : Nat) : Below w.heap.size w (w.drewN n) := ⟨rfl, rfl, rfl, Nat.le_refl _, fun _ _ => rfl⟩
theorem sz1 {w w1 : World} {o : Obj} (h : Below (w.alloc o).heap.size (w.alloc o) w1) : w.heap.size < w1.heap.size := by have := h.size; simp at this; omega
theorem bel2 (w : World) (o o' : Obj) : Below w.heap.size w ((w.alloc o).alloc o') := (bel1 w o).alloc (by simp) _
theorem bel3 (w : World) (o o' o'' : Obj) : Below w.heap.size w (((w.alloc o).alloc o').alloc o'') := (bel2 w o o').alloc (by simp; omega) _
theorem bthen {B : Nat} {w w1 w2 : World} (h : Below B w w1) (h2 : Below w1.heap.size w1 w2) (hB : B ≤ w.heap.size) : Below B w w2 := h.trans (h2.mono (Nat.le_trans hB h.size))
/-- block g is just these cells -/
def Blk (w : World) (g : Nat) (t : TypeId) (cs : Array Value) : Prop := w.heap[g]? = some (.cells cs t (0, 0))
theorem Blk.lt {w : World} {g : Nat} {t : TypeId} {cs : Array Value} (h : Blk w g t cs) : g < w.heap.size := by
 rcases Nat.lt_or_ge g w.heap.size with hl | hl
 ·exact hl
 ·unfold Blk at h; rw [Array.getElem?_eq_none hl] at h; cases h
theorem Blk.new (w : World) (cs : Array Value) (t : TypeId) : Blk (w.alloc (.cells cs t)) w.heap.size t cs := heap_alloc_new w _
theorem Blk.newAt {w : World} {k : Nat} (cs : Array Value) (t : TypeId) (h : w.heap.size = k) : Blk (w.alloc (.cells cs t)) k t cs := by subst h; exact Blk.new _ _ _
theorem Blk.below {w w' : World} {g : Nat} {t : TypeId} {cs : Array Value} (h : Blk w g t cs) (hb : Below w.heap.size w w') : Blk w' g t cs := (hb.block g h.lt).trans h
theorem Blk.alloc {w : World} {g : Nat} {t : TypeId} {cs : Array Value} (h : Blk w g t cs) (o : Obj) : Blk (w.alloc o) g t cs := h.below (bel1 _ _)
theorem Blk.drewN {w : World} {g : Nat} {t : TypeId} {cs : Array Value} (h : Blk w g t cs) (n : Nat) : Blk (w.drewN n) g t cs := h
theorem Blk.frozen {w : World} {g : Nat} {t : TypeId} {cs : Array Value} (h : Blk w g t cs) : ∀ o, w.frozen? ⟨g, o, none⟩ = false := by
 intro o; unfold Blk at h; simp [World.frozen?, h]
theorem Blk.set {w : World} {g : Nat} {t : TypeId} {cs : Array Value} (h : Blk w g t cs) (i : Nat) (u : Value) : Blk (w.setCell ⟨g, i, none⟩ u) g t (cs.setIfInBounds i u) := by
 unfold Blk at h ⊢
 simp [World.setCell, Array.getElem?_modify, h]
theorem Blk.far {w : World} {g : Nat} {t : TypeId} {cs : Array Value} (h : Blk w g t cs) {p : Addr} (hp : g ≠ p.block) (u : Value) : Blk (w.setCell p u) g t cs := (Below.heap_setCell w p u g hp).trans h
theorem Blk.c1 {w : World} {b : Nat} {t : TypeId} {v0 : Value} (h : Blk w b t #[v0]) : w.cell? ⟨b, 0, none⟩ = some v0 := by
 unfold Blk at h; simp [World.cell?, h]
theorem Blk.c2 {w : World} {b : Nat} {t : TypeId} {v0 v1 : Value} (h : Blk w b t #[v0, v1]) : w.cell? ⟨b, 0, none⟩ = some v0 ∧ w.cell? ⟨b, 1, none⟩ = some v1 := by
 unfold Blk at h; simp [World.cell?, h]
theorem Blk.c3 {w : World} {b : Nat} {t : TypeId} {v0 v1 v2 : Value} (h : Blk w b t #[v0, v1, v2]) : w.cell? ⟨b, 0, none⟩ = some v0 ∧ w.cell? ⟨b, 1, none⟩ = some v1 ∧ w.cell? ⟨b, 2, none⟩ = some v2 := by
 unfold Blk at h; simp [World.cell?, h]
end
section
open Go.RowKit
/-- 'Around': n modulo most, never negative. -/
def around (n most : Int) : Int := if n < 0 then (-(n + 1)) % most else n % most
theorem around_any (n most : Int) (w : World) (hn1 : -9223372036854775808 ≤ n) (hn2 : n ≤ 9223372036854775807) (h1 : 1 ≤ most) (h2 : most ≤ 9223372036854775807) :
  Calls Tryz.prog 17 #[.int .i64 n, .int .i64 most] w fun e w' => e = .returned (.int .i64 (around n most)) ∧ w = w' := by
 by_cases h : n < 0
 ·have e : around n most = (-(n + 1)) % most := if_pos h
  have e2 : (-(n + 1)).tmod most = (-(n + 1)) % most := Int.tmod_eq_emod_of_nonneg (by omega)
  have E := Lib.hid e; have E2 := Lib.hid e2; clear e e2
  go_enter Tryz.func17, Tryz.ntmps17
  go_wp2
  go_ret
  exact ⟨ret_int (by rw [E.out, ← E2.out, Int.neg_tmod]), rfl⟩
 ·have e : around n most = n % most := if_neg h
  have E := Lib.hid e; clear e
  go_enter Tryz.func17, Tryz.ntmps17
  go_wp2
  go_ret
  exact ⟨ret_int (by rw [E.out]), rfl⟩
theorem around_bd (n most : Int) (h1 : 1 ≤ most) : 0 ≤ around n most ∧ around n most < most := by
 unfold around; split <;> exact ⟨Int.emod_nonneg _ (by omega), Int.emod_lt_of_pos _ (by omega)⟩
def lettB (c : Nat) : Bool := decide (97 ≤ c) && decide (c ≤ 122)
def othB (c : Nat) : Bool := decide (48 ≤ c) && decide (c ≤ 57) || c == 95
/-- a byte that may stand in a name, at the first place or not -/
def nmB (first : Bool) (c : Nat) : Bool := lettB c || (!first && othB c)
def nameB (s : ByteArray) : Bool := decide (1 ≤ s.size) && decide (s.size ≤ 16) && (List.range s.size).all fun i => nmB (i == 0) (s.get! i).toNat
def vlB (c : Nat) : Bool := decide (33 ≤ c) && decide (c ≤ 126) && !(c == 34 || c == 92 || c == 44 || c == 123 || c == 125)
def valueB (s : ByteArray) : Bool := decide (s.size ≤ 16) && (List.range s.size).all fun i => vlB (s.get! i).toNat
theorem get!_of (s : ByteArray) (k : Nat) (h : k < s.size) : s.get! k = s[k] := by
 simp [ByteArray.get!, getElem!_pos, h]; rfl
theorem nameB_true {s : ByteArray} (h1 : 1 ≤ s.size) (h2 : s.size ≤ 16) (h : ∀ j (hj : j < s.size), nmB (j == 0) s[j].toNat = true) : nameB s = true := by
 unfold nameB
 rw [decide_eq_true h1, decide_eq_true h2]
 simp only [Bool.and_self, Bool.true_and, List.all_eq_true, List.mem_range]
 intro j hj
 rw [get!_of s j hj]; exact h j hj
theorem nameB_false {s : ByteArray} (k : Nat) (hk : k < s.size) (h : nmB (k == 0) s[k].toNat = false) : nameB s = false := by
 unfold nameB
 rw [Bool.and_eq_false_iff]
 right
 rw [List.all_eq_false]
 exact ⟨k, List.mem_range.2 hk, by rw [get!_of s k hk, h]; simp⟩
theorem nameB_short {s : ByteArray} (h : s.size < 1 ∨ 16 < s.size) : nameB s = false := by
 unfold nameB
 rcases h with h | h
 ·rw [decide_eq_false (by omega)]; simp
 ·rw [decide_eq_false (p := s.size ≤ 16) (by omega)]; simp
theorem valueB_true {s : ByteArray} (h2 : s.size ≤ 16) (h : ∀ j (hj : j < s.size), vlB s[j].toNat = true) : valueB s = true := by
 unfold valueB
 rw [decide_eq_true h2]
 simp only [Bool.and_self, Bool.true_and, List.all_eq_true, List.mem_range]
 intro j hj
 rw [get!_of s j hj]; exact h j hj
theorem valueB_false {s : ByteArray} (k : Nat) (hk : k < s.size) (h : vlB s[k].toNat = false) : valueB s = false := by
 unfold valueB
 rw [Bool.and_eq_false_iff]
 right
 rw [List.all_eq_false]
 exact ⟨k, List.mem_range.2 hk, by rw [get!_of s k hk, h]; simp⟩
theorem valueB_long {s : ByteArray} (h : 16 < s.size) : valueB s = false := by
 unfold valueB
 rw [decide_eq_false (by omega)]; simp
theorem nm_1 (f : Bool) {c : Nat} (h : lettB c = true) : nmB f c = true := by simp [nmB, h]
theorem nm_2 {c : Nat} (h : lettB c = false) : nmB ((0 : Nat) == 0) c = false := by simp [nmB, h]
theorem nm_3 {k c : Nat} (hk : ¬ k = 0) (h : othB c = true) : nmB (k == 0) c = true := by simp [nmB, h, hk]
theorem nm_4 {f : Bool} {c : Nat} (h : lettB c = false) (h' : othB c = false) : nmB f c = false := by simp [nmB, h, h']
theorem name_next {s : ByteArray} {k : Nat} {hk : k < s.size} (h : ∀ j (hj : j < s.size), j < k → nmB (j == 0) s[j].toNat = true) (h' : nmB (k == 0) s[k].toNat = true) :
  Hid (∀ j (hj : j < s.size), j < k + 1 → nmB (j == 0) s[j].toNat = true) := by
 intro j hj hlt
 rcases Nat.lt_or_ge j k with h1 | h1
 ·exact h j hj h1
 ·obtain rfl : j = k := by omega
  exact h'
theorem oth_cases (c : Nat) : (48 ≤ c ∧ c ≤ 57 ∧ othB c = true) ∨ (48 ≤ c ∧ 57 < c ∧ ((c : Int) == 95) = true ∧ othB c = true) ∨ (((c : Int) == 95) = false ∧ othB c = false ∧ (c < 48 ∨ 57 < c)) := by
 by_cases h1 : 48 ≤ c ∧ c ≤ 57
 ·exact .inl ⟨h1.1, h1.2, by simp [othB, h1]⟩
 by_cases h2 : c = 95
 ·subst h2; exact .inr (.inl ⟨by omega, by omega, by simp, by simp [othB]⟩)
 ·refine .inr (.inr ⟨?_, ?_, by omega⟩)
  ·simp; omega
  ·simp [othB, h2]; omega
theorem letter_any (c : Nat) (w : World) (hc : c < 256) :
  Calls Tryz.prog 84 #[.int .u8 c] w fun e w' => e = .returned (.bool (lettB c)) ∧ w = w' := by
 by_cases h : 97 ≤ c
 ·by_cases h2 : c ≤ 122
  ·have e : lettB c = true := by simp [lettB, h, h2]
   have E := Lib.hid e; clear e
   go_enter Tryz.func84, Tryz.ntmps84
   go_wp2
   go_ret
   exact ⟨ret_bool (by rw [E.out]; try (simp; try omega)), rfl⟩
  ·have e : lettB c = false := by simp [lettB]; omega
   have E := Lib.hid e; clear e
   go_enter Tryz.func84, Tryz.ntmps84
   go_wp2
   go_ret
   exact ⟨ret_bool (by rw [E.out]; try (simp; try omega)), rfl⟩
 ·have e : lettB c = false := by simp [lettB]; omega
  have E := Lib.hid e; clear e
  go_enter Tryz.func84, Tryz.ntmps84
  go_wp2
  go_ret
  exact ⟨ret_bool (by rw [E.out]; try (simp; try omega)), rfl⟩
set_option maxHeartbeats 400000 in
theorem rname_any (s : ByteArray) (w : World) (hs : s.size ≤ maxLen) :
  Calls Tryz.prog 66 #[.string s] w fun e w' => e = .returned (.bool (nameB s)) ∧ w = w' := by
 unfold maxLen at hs
 by_cases h1 : s.size < 1
 ·have E := Lib.hid (nameB_short (.inl h1))
  go_enter Tryz.func66, Tryz.ntmps66
  go_wp2
  go_ret
  exact ⟨ret_bool (by rw [E.out]), rfl⟩
 by_cases h2 : 16 < s.size
 ·have E := Lib.hid (nameB_short (.inr h2))
  go_enter Tryz.func66, Tryz.ntmps66
  go_wp2
  go_ret
  exact ⟨ret_bool (by rw [E.out]), rfl⟩
 go_enter Tryz.func66, Tryz.ntmps66
 go_wp2
 go_loop [3] (fun i => ∃ k : Nat, k ≤ s.size ∧ i = .int .i64 k ∧ Hid (∀ j (hj : j < s.size), j < k → nmB (j == 0) s[j].toNat = true)) (fun i => s.size - (intOf i).toNat)
 case atStart => exact ⟨0, Nat.zero_le _, rfl, fun j hj h => absurd h (by omega)⟩
 case round =>
  obtain ⟨k, hk, rfl, HK⟩ := hrel
  by_cases hlt : k < s.size
  ·have hc : s[k].toNat < 256 := UInt8.toNat_lt _
   by_cases hl : lettB s[k].toNat = true
   ·have HN := Lib.hid (nm_1 (k == 0) hl)
    go_wp2_with (go_at_call 84; refine (letter_any _ _ (UInt8.toNat_lt _)).mono ?_; rintro e w' ⟨rfl, rfl⟩)
    all_goals
     go_round
     case rel => exact ⟨k + 1, by omega, by go_num, name_next HK.out HN.out⟩
     case measure => simp [intOf]; omega
   have hl' : lettB s[k].toNat = false := by simpa using hl
   clear hl
   by_cases h0 : k = 0
   ·subst h0
    have HN := Lib.hid (nameB_false 0 hlt (nm_2 hl'))
    go_wp2_with (go_at_call 84; refine (letter_any _ _ (UInt8.toNat_lt _)).mono ?_; rintro e w' ⟨rfl, rfl⟩)
    all_goals
     go_ret
     exact ⟨ret_bool (by rw [HN.out]), rfl⟩
   have h0' : ((k : Int) == 0) = false := by simp; omega
   have hne := UInt8.toNat_lt s[k]
   rcases oth_cases s[k].toNat with ⟨ha, hb, ho⟩ | ⟨ha, hb, hd, ho⟩ | ⟨hd, ho, hab⟩
   ·have HN := Lib.hid (nm_3 h0 ho); clear ho
    go_wp2_with (go_at_call 84; refine (letter_any _ _ (UInt8.toNat_lt _)).mono ?_; rintro e w' ⟨rfl, rfl⟩)
    all_goals
     go_round
     case rel => exact ⟨k + 1, by omega, by go_num, name_next HK.out HN.out⟩
     case measure => simp [intOf]; omega
   ·have HN := Lib.hid (nm_3 h0 ho); clear ho
    go_wp2_with (go_at_call 84; refine (letter_any _ _ (UInt8.toNat_lt _)).mono ?_; rintro e w' ⟨rfl, rfl⟩)
    all_goals
     go_round
     case rel => exact ⟨k + 1, by omega, by go_num, name_next HK.out HN.out⟩
     case measure => simp [intOf]; omega
   ·have HN := Lib.hid (nameB_false k hlt (nm_4 hl' ho)); clear ho
    rcases hab with ha | ha
    ·go_wp2_with (go_at_call 84; refine (letter_any _ _ (UInt8.toNat_lt _)).mono ?_; rintro e w' ⟨rfl, rfl⟩)
     all_goals
      go_ret
      exact ⟨ret_bool (by rw [HN.out]), rfl⟩
    ·have ha2 : decide ((s[k].toNat : Int) ≤ 57) = false := by simp; omega
     go_wp2_with (go_at_call 84; refine (letter_any _ _ (UInt8.toNat_lt _)).mono ?_; rintro e w' ⟨rfl, rfl⟩)
     all_goals
      go_ret
      exact ⟨ret_bool (by rw [HN.out]), rfl⟩
  ·go_wp2
   go_ret
   exact ⟨ret_bool (by rw [nameB_true (by omega) (by omega) (fun j hj => HK.out j hj (by omega))]), rfl⟩
end
end Go.Proofs.YtpgdijbfkahepaaGreatDoor
