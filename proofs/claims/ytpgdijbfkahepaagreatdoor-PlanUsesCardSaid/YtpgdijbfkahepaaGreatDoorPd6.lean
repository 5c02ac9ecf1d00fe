/- Contracts, packed: Qa Qv. -/
import Derived.Test.YtpgdijbfkahepaaGreatDoorPd1
import Derived.Test.YtpgdijbfkahepaaGreatDoorPd2
import Derived.Test.YtpgdijbfkahepaaGreatDoorPd4
import Derived.Test.YtpgdijbfkahepaaGreatDoorPd5
set_option linter.unusedVariables false
set_option linter.unusedSimpArgs false
namespace Go.Proofs.YtpgdijbfkahepaaGreatDoor
section
open Go.RowKit FracM
/-- a node without its kids -/
structure Nd where
 kind : Int
 fn : Int
 win : Int
 off : Int
 k : Int
 num : Int
 den : Int
 name : ByteArray
 ms : List Mat
 bys : List ByteArray
inductive Tree where
 | node (d : Nd) (ks : List Tree)
def Tree.d : Tree → Nd
 | .node d _ => d
theorem Tree.ind {M : Tree → Prop} (h : ∀ d ks, (∀ t ∈ ks, M t) → M (.node d ks)) : ∀ t, M t
 | .node d ks => h d ks (fun t _ => Tree.ind h t)
mutual
def cnt : Tree → Int → Int → Int
 | .node _ ks, dp, l => cntL ks (dp + 1) (if 12 < dp then -1 else l - 1)
def cntL : List Tree → Int → Int → Int
 | [], _, l => l
 | t :: ts, dp, l => if l < 0 then l else cntL ts dp (cnt t dp l)
end
mutual
def dep : Tree → Nat
 | .node _ ks => depL ks + 1
def depL : List Tree → Nat
 | [] => 0
 | t :: ts => max (dep t) (depL ts)
end
mutual
def nds : Tree → Nat
 | .node _ ks => ndsL ks + 1
def ndsL : List Tree → Nat
 | [] => 0
 | t :: ts => nds t + ndsL ts
end
theorem cntL_neg (ts : List Tree) (dp l : Int) (h : l < 0) : cntL ts dp l = l := by
 cases ts with
 | nil => rw [cntL]
 | cons t ts => rw [cntL, if_pos h]
def CntOk (t : Tree) : Prop := ∀ (dp l : Int), 0 ≤ l → ((nds t : Int) ≤ l ∧ dp + dep t ≤ 13 → cnt t dp l = l - nds t) ∧ (¬ ((nds t : Int) ≤ l ∧ dp + dep t ≤ 13) → cnt t dp l < 0)
theorem cntL_ok (ts : List Tree) (H : ∀ t ∈ ts, CntOk t) : ∀ (dp l : Int), 0 ≤ l → dp ≤ 13 → ((ndsL ts : Int) ≤ l ∧ dp + depL ts ≤ 13 → cntL ts dp l = l - ndsL ts) ∧ (¬ ((ndsL ts : Int) ≤ l ∧ dp + depL ts ≤ 13) → cntL ts dp l < 0) := by
 induction ts with
 | nil => intro dp l h0 h1; rw [cntL, ndsL, depL]; constructor <;> intro h <;> omega
 | cons t ts ih =>
  intro dp l h0 h1
  rw [cntL, if_neg (by omega), ndsL, depL]
  obtain ⟨h2, h3⟩ := H t (by simp) dp l h0
  have ih' := ih (fun x hx => H x (by simp [hx])) dp
  by_cases hc : (nds t : Int) ≤ l ∧ dp + dep t ≤ 13
  ·rw [h2 hc]
   obtain ⟨i1, i2⟩ := ih' (l - nds t) (by omega) h1
   constructor
   ·intro h; rw [i1 (by omega)]; omega
   ·intro h; exact i2 (by omega)
  ·have := h3 hc
   rw [cntL_neg _ _ _ this]
   constructor
   ·intro h; omega
   ·intro h; exact this
theorem cnt_ok : ∀ t, CntOk t := Tree.ind fun d ks ih dp l h0 => by
 rw [cnt, nds, dep]
 by_cases h : 12 < dp
 ·rw [if_pos h, cntL_neg _ _ _ (by omega)]
  constructor <;> intro h <;> omega
 ·rw [if_neg h]
  by_cases hl : l = 0
  ·subst hl
   rw [cntL_neg _ _ _ (by omega)]
   constructor <;> intro h <;> omega
  ·obtain ⟨h1, h2⟩ := cntL_ok ks ih (dp + 1) (l - 1) (by omega) (by omega)
   constructor
   ·intro h; rw [h1 (by omega)]; omega
   ·intro h; exact h2 (by omega)
def fitB (t : Tree) : Bool := decide (nds t ≤ 200) && decide (dep t ≤ 12)
theorem fit_eq (t : Tree) : decide (0 ≤ cnt t 1 200) = fitB t := by
 obtain ⟨h1, h2⟩ := cnt_ok t 1 200 (by omega)
 unfold fitB
 by_cases h : (nds t : Int) ≤ 200 ∧ (1 : Int) + dep t ≤ 13
 ·have := h1 h
  rw [decide_eq_true (show 0 ≤ cnt t 1 200 by omega), decide_eq_true (show nds t ≤ 200 by omega), decide_eq_true (show dep t ≤ 12 by omega)]; rfl
 ·have := h2 h
  rw [decide_eq_false (show ¬ 0 ≤ cnt t 1 200 by omega)]
  by_cases h3 : nds t ≤ 200
  ·rw [decide_eq_false (show ¬ dep t ≤ 12 by omega)]; simp
  ·rw [decide_eq_false h3]; simp
/-- the words of the groups -/
def groupsL : List ByteArray := [⟨#[115, 117, 109]⟩, ⟨#[109, 105, 110]⟩, ⟨#[109, 97, 120]⟩, ⟨#[99, 111, 117, 110, 116]⟩, ⟨#[107, 116, 104]⟩]
def inGroups (s : ByteArray) : Bool := groupsL.any fun x => x.toList == s.toList
def noSelB (d : Nd) : Bool := d.win == 0 && d.off == 0 && d.name.toList.isEmpty && d.ms.isEmpty
def noNumB (d : Nd) : Bool := d.num == 0 && d.den == 0
def shapedB (d : Nd) (n : Nat) : Bool :=
 if d.kind = 0 then d.fn == 0 && n == 0 && noSelB d && d.k == 0 && d.bys.isEmpty && validB d.num d.den
 else if d.kind = 1 then decide (0 ≤ d.fn) && decide (d.fn ≤ 7) && n == 0 && noNumB d && d.bys.isEmpty
 else if d.kind = 2 then decide (0 ≤ d.fn) && decide (d.fn ≤ 4) && n == 1 && noNumB d && noSelB d
 else if d.kind = 3 then decide (0 ≤ d.fn) && decide (d.fn ≤ 3) && n == 2 && noNumB d && noSelB d && d.k == 0 && d.bys.isEmpty
 else false
def rangedB (d : Nd) : Bool :=
 if d.kind = 1 then
  decide (0 ≤ d.off) && decide (d.off ≤ 4096) && (if d.fn = 0 then d.win == 0 && d.k == 0 else decide (1 ≤ d.win) && decide (d.win ≤ 4096) && (if d.fn = 7 then decide (1 ≤ d.k) && decide (d.k ≤ d.win) else d.k == 0))
 else if d.kind = 2 then (if d.fn = 4 then decide (1 ≤ d.k) && decide (d.k ≤ 4096) else d.k == 0)
 else true
/-- the order of strings, as the program compares them -/
def leS (a b : ByteArray) : Bool := Op.bytesLess a.toList b.toList || (a.toList == b.toList)
/-- the names of a by clause, behind a name -/
def bysFrom (prev : Option ByteArray) : List ByteArray → Bool
 | [] => true
 | x :: xs => nameB x && !(match prev with | none => false | some p => leS x p) && bysFrom (some x) xs
def bysB (l : List ByteArray) : Bool := bysFrom none l
def namedB (d : Nd) : Bool := (!(d.kind == 1) || (nameB d.name && !inGroups d.name)) && d.ms.all vmatB && bysB d.bys
def chk1 (d : Nd) (n : Nat) : Int :=
 if shapedB d n = false then 1 else if namedB d = false then 8 else if 8 < d.ms.length ∨ 8 < d.bys.length then 4 else if rangedB d = false then 5 else 0
mutual
def chk : Tree → Int
 | .node d ks => if chk1 d ks.length = 0 then chkL ks else chk1 d ks.length
def chkL : List Tree → Int
 | [] => 0
 | t :: ts => if chk t = 0 then chkL ts else chk t
end
theorem chkL_ok {ts : List Tree} (h : chkL ts = 0) : ∀ t ∈ ts, chk t = 0 := by
 induction ts with
 | nil => intro t ht; cases ht
 | cons x ts ih =>
  intro t ht
  rw [chkL] at h
  by_cases hx : chk x = 0
  ·rw [if_pos hx] at h
   rcases List.mem_cons.1 ht with rfl | ht
   ·exact hx
   ·exact ih h t ht
  ·rw [if_neg hx] at h; exact absurd h hx
theorem chk_ok {d : Nd} {ks : List Tree} (h : chk (.node d ks) = 0) : chk1 d ks.length = 0 ∧ ∀ t ∈ ks, chk t = 0 := by
 rw [chk] at h
 by_cases hx : chk1 d ks.length = 0
 ·rw [if_pos hx] at h; exact ⟨hx, chkL_ok h⟩
 ·rw [if_neg hx] at h; exact absurd h hx
theorem shape_cases {d : Nd} {n : Nat} (h : shapedB d n = true) : (d.kind = 0 ∧ n = 0) ∨ (d.kind = 1 ∧ n = 0 ∧ 0 ≤ d.fn ∧ d.fn ≤ 7) ∨ (d.kind = 2 ∧ n = 1 ∧ 0 ≤ d.fn ∧ d.fn ≤ 4) ∨ (d.kind = 3 ∧ n = 2 ∧ 0 ≤ d.fn ∧ d.fn ≤ 3) := by
 unfold shapedB at h
 by_cases h0 : d.kind = 0
 ·rw [if_pos h0] at h; simp at h; exact .inl ⟨h0, by omega⟩
 rw [if_neg h0] at h
 by_cases h1 : d.kind = 1
 ·rw [if_pos h1] at h; simp at h; exact .inr (.inl ⟨h1, by omega, by omega, by omega⟩)
 rw [if_neg h1] at h
 by_cases h2 : d.kind = 2
 ·rw [if_pos h2] at h; simp at h; exact .inr (.inr (.inl ⟨h2, by omega, by omega, by omega⟩))
 rw [if_neg h2] at h
 by_cases h3 : d.kind = 3
 ·rw [if_pos h3] at h; simp at h; exact .inr (.inr (.inr ⟨h3, by omega, by omega, by omega⟩))
 rw [if_neg h3] at h; cases h
def validE (t : Tree) : Int := if fitB t = false then 4 else chk t
abbrev U3 := Int × Int × Int
def u0 : U3 := (0, 0, 0)
/-- a declaration: its name, labels and unit -/
abbrev Dc := ByteArray × List Lab × U3
def hitB (d : Nd) (x : Dc) : Bool := (x.1.toList == d.name.toList) && matchB x.2.1 d.ms
end
section
open Go.RowKit
set_option maxHeartbeats 1000000 in
theorem vmat_any (nm vl : ByteArray) (kd : Int) (w : World) (hs1 : nm.size ≤ maxLen) (hs2 : vl.size ≤ maxLen) :
  Calls Tryz.prog 98 #[.agg #[.string nm, .int .i64 kd, .string vl]] w fun e w' => e = .returned (.bool (vmatB (nm, kd, vl))) ∧ Below w.heap.size w w' := by
 by_cases hk : 0 ≤ kd ∧ kd ≤ 2
 ·have hk3 : kd = 0 ∨ kd = 1 ∨ kd = 2 := by omega
  clear hk
  by_cases hn : nameB nm = true
  ·rcases hk3 with rfl | rfl | rfl
   ·have E : Hid (vmatB (nm, 0, vl) = valueB vl) := by simp [vmatB, hn, Hid]
    go_enter Tryz.func98, Tryz.ntmps98
    go_wp2_with (first | (go_at_call 96; refine (name_any _ _ hs1).mono ?_; rintro e w1 ⟨rfl, hb1⟩; obtain ⟨hc1, hf1⟩ := bcell hb1; have hz1 := hb1.size; have HB : Hid (Below w.heap.size w w1) := (bel1 _ _).trans (hb1.mono (by simp)); clear hb1) | (go_at_call 108; refine (value_any _ _ hs2).mono ?_; rintro e w2 ⟨rfl, hb2⟩; have HB2 : Hid (Below w.heap.size w w2) := HB.out.trans (hb2.mono HB.out.size); clear hb2))
    go_ret
    exact ⟨ret_bool (by rw [E.out]), HB2.out⟩
   ·have E : Hid (vmatB (nm, 1, vl) = valueB vl) := by simp [vmatB, hn, Hid]
    go_enter Tryz.func98, Tryz.ntmps98
    go_wp2_with (first | (go_at_call 96; refine (name_any _ _ hs1).mono ?_; rintro e w1 ⟨rfl, hb1⟩; obtain ⟨hc1, hf1⟩ := bcell hb1; have hz1 := hb1.size; have HB : Hid (Below w.heap.size w w1) := (bel1 _ _).trans (hb1.mono (by simp)); clear hb1) | (go_at_call 108; refine (value_any _ _ hs2).mono ?_; rintro e w2 ⟨rfl, hb2⟩; have HB2 : Hid (Below w.heap.size w w2) := HB.out.trans (hb2.mono HB.out.size); clear hb2))
    go_ret
    exact ⟨ret_bool (by rw [E.out]), HB2.out⟩
   ·have E : Hid (vmatB (nm, 2, vl) = valueB vl) := by simp [vmatB, hn, Hid]
    go_enter Tryz.func98, Tryz.ntmps98
    go_wp2_with (first | (go_at_call 96; refine (name_any _ _ hs1).mono ?_; rintro e w1 ⟨rfl, hb1⟩; obtain ⟨hc1, hf1⟩ := bcell hb1; have hz1 := hb1.size; have HB : Hid (Below w.heap.size w w1) := (bel1 _ _).trans (hb1.mono (by simp)); clear hb1) | (go_at_call 108; refine (value_any _ _ hs2).mono ?_; rintro e w2 ⟨rfl, hb2⟩; have HB2 : Hid (Below w.heap.size w w2) := HB.out.trans (hb2.mono HB.out.size); clear hb2))
    go_ret
    exact ⟨ret_bool (by rw [E.out]), HB2.out⟩
  ·have hn' : nameB nm = false := by simpa using hn
   clear hn
   rcases hk3 with rfl | rfl | rfl
   ·have E : Hid (vmatB (nm, 0, vl) = false) := by simp [vmatB, hn', Hid]
    go_enter Tryz.func98, Tryz.ntmps98
    go_wp2_with (first | (go_at_call 96; refine (name_any _ _ hs1).mono ?_; rintro e w1 ⟨rfl, hb1⟩; obtain ⟨hc1, hf1⟩ := bcell hb1; have hz1 := hb1.size; have HB : Hid (Below w.heap.size w w1) := (bel1 _ _).trans (hb1.mono (by simp)); clear hb1) | (go_at_call 108; refine (value_any _ _ hs2).mono ?_; rintro e w2 ⟨rfl, hb2⟩; have HB2 : Hid (Below w.heap.size w w2) := HB.out.trans (hb2.mono HB.out.size); clear hb2))
    go_ret
    exact ⟨ret_bool (by rw [E.out]), HB.out⟩
   ·have E : Hid (vmatB (nm, 1, vl) = false) := by simp [vmatB, hn', Hid]
    go_enter Tryz.func98, Tryz.ntmps98
    go_wp2_with (first | (go_at_call 96; refine (name_any _ _ hs1).mono ?_; rintro e w1 ⟨rfl, hb1⟩; obtain ⟨hc1, hf1⟩ := bcell hb1; have hz1 := hb1.size; have HB : Hid (Below w.heap.size w w1) := (bel1 _ _).trans (hb1.mono (by simp)); clear hb1) | (go_at_call 108; refine (value_any _ _ hs2).mono ?_; rintro e w2 ⟨rfl, hb2⟩; have HB2 : Hid (Below w.heap.size w w2) := HB.out.trans (hb2.mono HB.out.size); clear hb2))
    go_ret
    exact ⟨ret_bool (by rw [E.out]), HB.out⟩
   ·have E : Hid (vmatB (nm, 2, vl) = false) := by simp [vmatB, hn', Hid]
    go_enter Tryz.func98, Tryz.ntmps98
    go_wp2_with (first | (go_at_call 96; refine (name_any _ _ hs1).mono ?_; rintro e w1 ⟨rfl, hb1⟩; obtain ⟨hc1, hf1⟩ := bcell hb1; have hz1 := hb1.size; have HB : Hid (Below w.heap.size w w1) := (bel1 _ _).trans (hb1.mono (by simp)); clear hb1) | (go_at_call 108; refine (value_any _ _ hs2).mono ?_; rintro e w2 ⟨rfl, hb2⟩; have HB2 : Hid (Below w.heap.size w w2) := HB.out.trans (hb2.mono HB.out.size); clear hb2))
    go_ret
    exact ⟨ret_bool (by rw [E.out]), HB.out⟩
 ·have E : Hid (vmatB (nm, kd, vl) = false) := by simp [vmatB, Hid]; omega
  have h0' : (kd == 0) = false := by simp; omega
  have h1' : (kd == 1) = false := by simp; omega
  have h2' : (kd == 2) = false := by simp; omega
  clear hk
  go_enter Tryz.func98, Tryz.ntmps98
  go_wp2_with (first | (go_at_call 96; refine (name_any _ _ hs1).mono ?_; rintro e w1 ⟨rfl, hb1⟩; obtain ⟨hc1, hf1⟩ := bcell hb1; have hz1 := hb1.size; have HB : Hid (Below w.heap.size w w1) := (bel1 _ _).trans (hb1.mono (by simp)); clear hb1) | (go_at_call 108; refine (value_any _ _ hs2).mono ?_; rintro e w2 ⟨rfl, hb2⟩; have HB2 : Hid (Below w.heap.size w w2) := HB.out.trans (hb2.mono HB.out.size); clear hb2))
  go_ret
  exact ⟨ret_bool (by rw [E.out]), bel1 _ _⟩
set_option maxHeartbeats 1000000 in
theorem rvmat_any (nm vl : ByteArray) (kd : Int) (w : World) (hs1 : nm.size ≤ maxLen) (hs2 : vl.size ≤ maxLen) :
  Calls Tryz.prog 69 #[.agg #[.string nm, .int .i64 kd, .string vl]] w fun e w' => e = .returned (.bool (vmatB (nm, kd, vl))) ∧ Below w.heap.size w w' := by
 by_cases hn : nameB nm = true
 ·by_cases hk : 0 ≤ kd
  ·by_cases hk2 : kd ≤ 2
   ·have E : Hid (vmatB (nm, kd, vl) = valueB vl) := by simp [vmatB, hn, hk, hk2, Hid]
    go_enter Tryz.func69, Tryz.ntmps69
    go_wp2_with (first | (go_at_call 66; refine (rname_any _ _ hs1).mono ?_; rintro e w1 ⟨rfl, rfl⟩) | (go_at_call 85; refine (rvalue_any _ _ hs2).mono ?_; rintro e w2 ⟨rfl, rfl⟩))
    go_ret
    exact ⟨ret_bool (by rw [E.out]), bel1 _ _⟩
   ·have E : Hid (vmatB (nm, kd, vl) = false) := by simp [vmatB, hk2, Hid]
    go_enter Tryz.func69, Tryz.ntmps69
    go_wp2_with (first | (go_at_call 66; refine (rname_any _ _ hs1).mono ?_; rintro e w1 ⟨rfl, rfl⟩) | (go_at_call 85; refine (rvalue_any _ _ hs2).mono ?_; rintro e w2 ⟨rfl, rfl⟩))
    go_ret
    exact ⟨ret_bool (by rw [E.out]), bel1 _ _⟩
  ·have E : Hid (vmatB (nm, kd, vl) = false) := by simp [vmatB, hk, Hid]
   go_enter Tryz.func69, Tryz.ntmps69
   go_wp2_with (first | (go_at_call 66; refine (rname_any _ _ hs1).mono ?_; rintro e w1 ⟨rfl, rfl⟩) | (go_at_call 85; refine (rvalue_any _ _ hs2).mono ?_; rintro e w2 ⟨rfl, rfl⟩))
   go_ret
   exact ⟨ret_bool (by rw [E.out]), bel1 _ _⟩
 ·have hn' : nameB nm = false := by simpa using hn
  clear hn
  have E : Hid (vmatB (nm, kd, vl) = false) := by simp [vmatB, hn', Hid]
  go_enter Tryz.func69, Tryz.ntmps69
  go_wp2_with (first | (go_at_call 66; refine (rname_any _ _ hs1).mono ?_; rintro e w1 ⟨rfl, rfl⟩) | (go_at_call 85; refine (rvalue_any _ _ hs2).mono ?_; rintro e w2 ⟨rfl, rfl⟩))
  go_ret
  exact ⟨ret_bool (by rw [E.out]), bel1 _ _⟩
end
end Go.Proofs.YtpgdijbfkahepaaGreatDoor
