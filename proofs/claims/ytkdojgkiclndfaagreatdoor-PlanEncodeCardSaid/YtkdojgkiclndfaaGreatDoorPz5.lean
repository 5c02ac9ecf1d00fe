/- Contracts, packed: Match2 Qv Yc Yd Kd. -/
import Derived.Test.YtkdojgkiclndfaaGreatDoorPz1
import Derived.Test.YtkdojgkiclndfaaGreatDoorPz2
import Derived.Test.YtkdojgkiclndfaaGreatDoorPz3
import Derived.Test.YtkdojgkiclndfaaGreatDoorPz4
import Derived.Deep.RegionHeld3
import Derived.WalkSmall
set_option linter.unusedVariables false
set_option linter.unusedSimpArgs false
namespace Go.Proofs.YtkdojgkiclndfaaGreatDoor
section
open Go.RowKit
def vmatB (m : Mat) : Bool := nameB m.1 && (decide (0 ≤ m.2.1) && decide (m.2.1 ≤ 2)) && valueB m.2.2
end
section
open Go.RowKit
set_option maxHeartbeats 1000000 in
theorem vmat_any (nm vl : ByteArray) (kd : Int) (w : World) (hs1 : nm.size ≤ maxLen) (hs2 : vl.size ≤ maxLen) :
  Calls Tryz.prog 129 #[.agg #[.string nm, .int .i64 kd, .string vl]] w fun e w' => e = .returned (.bool (vmatB (nm, kd, vl))) ∧ Below w.heap.size w w' := by
 by_cases hk : 0 ≤ kd ∧ kd ≤ 2
 ·have hk3 : kd = 0 ∨ kd = 1 ∨ kd = 2 := by omega
  clear hk
  by_cases hn : nameB nm = true
  ·rcases hk3 with rfl | rfl | rfl
   ·have E : Hid (vmatB (nm, 0, vl) = valueB vl) := by simp [vmatB, hn, Hid]
    go_enter Tryz.func129, Tryz.ntmps129
    go_wp2_with (first | (go_at_call 127; refine (name_any _ _ hs1).mono ?_; rintro e w1 ⟨rfl, hb1⟩; obtain ⟨hc1, hf1⟩ := bcell hb1; have hz1 := hb1.size; have HB : Hid (Below w.heap.size w w1) := (bel1 _ _).trans (hb1.mono (by simp)); clear hb1) | (go_at_call 148; refine (value_any _ _ hs2).mono ?_; rintro e w2 ⟨rfl, hb2⟩; have HB2 : Hid (Below w.heap.size w w2) := HB.out.trans (hb2.mono HB.out.size); clear hb2))
    go_ret
    exact ⟨ret_bool (by rw [E.out]), HB2.out⟩
   ·have E : Hid (vmatB (nm, 1, vl) = valueB vl) := by simp [vmatB, hn, Hid]
    go_enter Tryz.func129, Tryz.ntmps129
    go_wp2_with (first | (go_at_call 127; refine (name_any _ _ hs1).mono ?_; rintro e w1 ⟨rfl, hb1⟩; obtain ⟨hc1, hf1⟩ := bcell hb1; have hz1 := hb1.size; have HB : Hid (Below w.heap.size w w1) := (bel1 _ _).trans (hb1.mono (by simp)); clear hb1) | (go_at_call 148; refine (value_any _ _ hs2).mono ?_; rintro e w2 ⟨rfl, hb2⟩; have HB2 : Hid (Below w.heap.size w w2) := HB.out.trans (hb2.mono HB.out.size); clear hb2))
    go_ret
    exact ⟨ret_bool (by rw [E.out]), HB2.out⟩
   ·have E : Hid (vmatB (nm, 2, vl) = valueB vl) := by simp [vmatB, hn, Hid]
    go_enter Tryz.func129, Tryz.ntmps129
    go_wp2_with (first | (go_at_call 127; refine (name_any _ _ hs1).mono ?_; rintro e w1 ⟨rfl, hb1⟩; obtain ⟨hc1, hf1⟩ := bcell hb1; have hz1 := hb1.size; have HB : Hid (Below w.heap.size w w1) := (bel1 _ _).trans (hb1.mono (by simp)); clear hb1) | (go_at_call 148; refine (value_any _ _ hs2).mono ?_; rintro e w2 ⟨rfl, hb2⟩; have HB2 : Hid (Below w.heap.size w w2) := HB.out.trans (hb2.mono HB.out.size); clear hb2))
    go_ret
    exact ⟨ret_bool (by rw [E.out]), HB2.out⟩
  ·have hn' : nameB nm = false := by simpa using hn
   clear hn
   rcases hk3 with rfl | rfl | rfl
   ·have E : Hid (vmatB (nm, 0, vl) = false) := by simp [vmatB, hn', Hid]
    go_enter Tryz.func129, Tryz.ntmps129
    go_wp2_with (first | (go_at_call 127; refine (name_any _ _ hs1).mono ?_; rintro e w1 ⟨rfl, hb1⟩; obtain ⟨hc1, hf1⟩ := bcell hb1; have hz1 := hb1.size; have HB : Hid (Below w.heap.size w w1) := (bel1 _ _).trans (hb1.mono (by simp)); clear hb1) | (go_at_call 148; refine (value_any _ _ hs2).mono ?_; rintro e w2 ⟨rfl, hb2⟩; have HB2 : Hid (Below w.heap.size w w2) := HB.out.trans (hb2.mono HB.out.size); clear hb2))
    go_ret
    exact ⟨ret_bool (by rw [E.out]), HB.out⟩
   ·have E : Hid (vmatB (nm, 1, vl) = false) := by simp [vmatB, hn', Hid]
    go_enter Tryz.func129, Tryz.ntmps129
    go_wp2_with (first | (go_at_call 127; refine (name_any _ _ hs1).mono ?_; rintro e w1 ⟨rfl, hb1⟩; obtain ⟨hc1, hf1⟩ := bcell hb1; have hz1 := hb1.size; have HB : Hid (Below w.heap.size w w1) := (bel1 _ _).trans (hb1.mono (by simp)); clear hb1) | (go_at_call 148; refine (value_any _ _ hs2).mono ?_; rintro e w2 ⟨rfl, hb2⟩; have HB2 : Hid (Below w.heap.size w w2) := HB.out.trans (hb2.mono HB.out.size); clear hb2))
    go_ret
    exact ⟨ret_bool (by rw [E.out]), HB.out⟩
   ·have E : Hid (vmatB (nm, 2, vl) = false) := by simp [vmatB, hn', Hid]
    go_enter Tryz.func129, Tryz.ntmps129
    go_wp2_with (first | (go_at_call 127; refine (name_any _ _ hs1).mono ?_; rintro e w1 ⟨rfl, hb1⟩; obtain ⟨hc1, hf1⟩ := bcell hb1; have hz1 := hb1.size; have HB : Hid (Below w.heap.size w w1) := (bel1 _ _).trans (hb1.mono (by simp)); clear hb1) | (go_at_call 148; refine (value_any _ _ hs2).mono ?_; rintro e w2 ⟨rfl, hb2⟩; have HB2 : Hid (Below w.heap.size w w2) := HB.out.trans (hb2.mono HB.out.size); clear hb2))
    go_ret
    exact ⟨ret_bool (by rw [E.out]), HB.out⟩
 ·have E : Hid (vmatB (nm, kd, vl) = false) := by simp [vmatB, Hid]; omega
  have h0' : (kd == 0) = false := by simp; omega
  have h1' : (kd == 1) = false := by simp; omega
  have h2' : (kd == 2) = false := by simp; omega
  clear hk
  go_enter Tryz.func129, Tryz.ntmps129
  go_wp2_with (first | (go_at_call 127; refine (name_any _ _ hs1).mono ?_; rintro e w1 ⟨rfl, hb1⟩; obtain ⟨hc1, hf1⟩ := bcell hb1; have hz1 := hb1.size; have HB : Hid (Below w.heap.size w w1) := (bel1 _ _).trans (hb1.mono (by simp)); clear hb1) | (go_at_call 148; refine (value_any _ _ hs2).mono ?_; rintro e w2 ⟨rfl, hb2⟩; have HB2 : Hid (Below w.heap.size w w2) := HB.out.trans (hb2.mono HB.out.size); clear hb2))
  go_ret
  exact ⟨ret_bool (by rw [E.out]), bel1 _ _⟩
set_option maxHeartbeats 1000000 in
theorem rvmat_any (nm vl : ByteArray) (kd : Int) (w : World) (hs1 : nm.size ≤ maxLen) (hs2 : vl.size ≤ maxLen) :
  Calls Tryz.prog 117 #[.agg #[.string nm, .int .i64 kd, .string vl]] w fun e w' => e = .returned (.bool (vmatB (nm, kd, vl))) ∧ Below w.heap.size w w' := by
 by_cases hn : nameB nm = true
 ·by_cases hk : 0 ≤ kd
  ·by_cases hk2 : kd ≤ 2
   ·have E : Hid (vmatB (nm, kd, vl) = valueB vl) := by simp [vmatB, hn, hk, hk2, Hid]
    go_enter Tryz.func117, Tryz.ntmps117
    go_wp2_with (first | (go_at_call 114; refine (rname_any _ _ hs1).mono ?_; rintro e w1 ⟨rfl, rfl⟩) | (go_at_call 144; refine (rvalue_any _ _ hs2).mono ?_; rintro e w2 ⟨rfl, rfl⟩))
    go_ret
    exact ⟨ret_bool (by rw [E.out]), bel1 _ _⟩
   ·have E : Hid (vmatB (nm, kd, vl) = false) := by simp [vmatB, hk2, Hid]
    go_enter Tryz.func117, Tryz.ntmps117
    go_wp2_with (first | (go_at_call 114; refine (rname_any _ _ hs1).mono ?_; rintro e w1 ⟨rfl, rfl⟩) | (go_at_call 144; refine (rvalue_any _ _ hs2).mono ?_; rintro e w2 ⟨rfl, rfl⟩))
    go_ret
    exact ⟨ret_bool (by rw [E.out]), bel1 _ _⟩
  ·have E : Hid (vmatB (nm, kd, vl) = false) := by simp [vmatB, hk, Hid]
   go_enter Tryz.func117, Tryz.ntmps117
   go_wp2_with (first | (go_at_call 114; refine (rname_any _ _ hs1).mono ?_; rintro e w1 ⟨rfl, rfl⟩) | (go_at_call 144; refine (rvalue_any _ _ hs2).mono ?_; rintro e w2 ⟨rfl, rfl⟩))
   go_ret
   exact ⟨ret_bool (by rw [E.out]), bel1 _ _⟩
 ·have hn' : nameB nm = false := by simpa using hn
  clear hn
  have E : Hid (vmatB (nm, kd, vl) = false) := by simp [vmatB, hn', Hid]
  go_enter Tryz.func117, Tryz.ntmps117
  go_wp2_with (first | (go_at_call 114; refine (rname_any _ _ hs1).mono ?_; rintro e w1 ⟨rfl, rfl⟩) | (go_at_call 144; refine (rvalue_any _ _ hs2).mono ?_; rintro e w2 ⟨rfl, rfl⟩))
  go_ret
  exact ⟨ret_bool (by rw [E.out]), bel1 _ _⟩
end
section
open Go.RowKit
theorem WordsW.below {w w' : World} (h : WordsW w) (hb : Below w.heap.size w w') : WordsW w' := by
 obtain ⟨h1, h5, h6⟩ := h
 refine ⟨fun k hk => ?_, Nat.lt_of_lt_of_le h5 hb.size, Nat.lt_of_lt_of_le h6 hb.size⟩
 obtain ⟨s, hs, hn⟩ := h1 k hk
 exact ⟨s, (hb.cell h5).trans hs, hn⟩
end
section
open Go.RowKit
end
section
open Go.RowKit
abbrev tokC (t : Tok) : Array Value := #[.int .i64 t.kind, .string (bsL t.text), .int .i64 t.n, .int .i64 (t.off : Int)]
theorem Wr.alloc {q : Nat} {A B : World} (h : Wr q A B) (o : Obj) : Wr q A (B.alloc o) :=
 ⟨h.ko.trans (KeepsOthers.alloc _ _), h.os, h.tape, h.output, fun k hk hn => (Below.heap_alloc B o k (Nat.lt_of_lt_of_le hk h.ko.size)).trans (h.block k hk hn)⟩
theorem Wr.set {q : Nat} {A B : World} (h : Wr q A B) (k : Nat) (v : Value) : Wr q A (B.setCell ⟨q, k, none⟩ v) :=
 ⟨h.ko.trans (KeepsOthers.setCell _ _ _), h.os, h.tape, h.output, fun i hi hn => (Below.heap_setCell _ _ _ _ hn).trans (h.block i hi hn)⟩
theorem Wr.setNew {q : Nat} {A B : World} (h : Wr q A B) {g : Nat} (hg : A.heap.size ≤ g) (k : Nat) (v : Value) : Wr q A (B.setCell ⟨g, k, none⟩ v) :=
 ⟨h.ko.trans (KeepsOthers.setCell _ _ _), h.os, h.tape, h.output, fun i hi hn => (Below.heap_setCell _ _ _ _ (by simp only; omega)).trans (h.block i hi hn)⟩
theorem Wr.drew {q : Nat} {A B : World} (h : Wr q A B) : Wr q A B.drew := ⟨⟨h.ko.size, h.ko.same⟩, h.os, h.tape, h.output, h.block⟩
theorem Wr.drewN {q : Nat} {A B : World} (h : Wr q A B) (n : Nat) : Wr q A (B.drewN n) := ⟨⟨h.ko.size, h.ko.same⟩, h.os, h.tape, h.output, h.block⟩
abbrev zeroTok : Array Value := #[.int .i64 0, .string ⟨#[]⟩, .int .i64 0, .int .i64 0]
theorem Blk.c4 {w : World} {b : Nat} {t : TypeId} {v0 v1 v2 v3 : Value} (h : Blk w b t #[v0, v1, v2, v3]) : w.cell? ⟨b, 0, none⟩ = some v0 ∧ w.cell? ⟨b, 1, none⟩ = some v1 ∧ w.cell? ⟨b, 2, none⟩ = some v2 ∧ w.cell? ⟨b, 3, none⟩ = some v3 := by
 unfold Blk at h
 refine ⟨?_, ?_, ?_, ?_⟩ <;> simp [World.cell?, h]
/-- what a function that reads a token hands back -/
def RetK (q : Nat) (s : ByteArray) (i : Nat) (r : Int × Tok × Nat) (w : World) (e : Ending) (w' : World) : Prop := e = .returned (.agg (tokC r.2.1)) ∧ Src w' q s i r.1 ∧ Wr q w w'
theorem ext_bs (s : ByteArray) (i n : Nat) : s.extract i (i + n) = bsL ((s.data.toList.drop i).take n) := by
 apply ByteArray.ext
 rw [ByteArray.data_extract]
 unfold bsL
 apply Array.toList_inj.1
 simp [Array.toList_extract, List.extract_eq_take_drop]
theorem tw_take (f : UInt8 → Bool) (l : List UInt8) : l.take (l.takeWhile f).length = l.takeWhile f := by
 induction l with
 | nil => rfl
 | cons c r ih =>
  rw [List.takeWhile_cons]
  split
  ·rw [List.length_cons, List.take_succ_cons, ih]
  ·rfl
theorem ext_tw (f : UInt8 → Bool) (s : ByteArray) (i : Nat) : s.extract i (i + twN f s i) = bsL ((s.data.toList.drop i).takeWhile f) := by
 rw [ext_bs]; unfold twN; rw [tw_take]
/-- the four cells of a token, written -/
def putT (W : World) (g : Nat) (k : Int) (t : ByteArray) (n o : Int) : World := (((W.setCell ⟨g, 0, none⟩ (.int .i64 k)).setCell ⟨g, 1, none⟩ (.string t)).setCell ⟨g, 2, none⟩ (.int .i64 n)).setCell ⟨g, 3, none⟩ (.int .i64 o)
theorem tok_fin {q : Nat} {s : ByteArray} {i er k n o : Int} {t : ByteArray} {w W : World} (h1 : Wr q w W) (h2 : Src W q s i er) (h3 : Blk W w.heap.size 126 zeroTok) (hq : q < w.heap.size) :
  Blk (putT W w.heap.size k t n o).drew w.heap.size 126 #[.int .i64 k, .string t, .int .i64 n, .int .i64 o] ∧ Wr q w (putT W w.heap.size k t n o).drew ∧ Src (putT W w.heap.size k t n o).drew q s i er := by
 have hne : q ≠ w.heap.size := by omega
 unfold putT
 refine ⟨?_, ((((h1.setNew (Nat.le_refl _) _ _).setNew (Nat.le_refl _) _ _).setNew (Nat.le_refl _) _ _).setNew (Nat.le_refl _) _ _).drew, ?_⟩
 ·have := (((h3.set 0 (.int .i64 k)).set 1 (.string t)).set 2 (.int .i64 n)).set 3 (.int .i64 o)
  exact Blk.drewN (by simpa using this) 1
 ·exact Blk.drewN ((((h2.far (p := ⟨w.heap.size, 0, none⟩) hne _).far (p := ⟨w.heap.size, 1, none⟩) hne _).far (p := ⟨w.heap.size, 2, none⟩) hne _).far (p := ⟨w.heap.size, 3, none⟩) hne _) 1
theorem tok_fin0 {q : Nat} {s : ByteArray} {i er k n o : Int} {t : ByteArray} {w W : World} (h1 : Wr q w W) (h2 : Src W q s i er) (h3 : Blk W w.heap.size 126 zeroTok) (hq : q < w.heap.size) :
  Blk (putT W w.heap.size k t n o) w.heap.size 126 #[.int .i64 k, .string t, .int .i64 n, .int .i64 o] ∧ Wr q w (putT W w.heap.size k t n o) ∧ Src (putT W w.heap.size k t n o) q s i er := by
 have hne : q ≠ w.heap.size := by omega
 unfold putT
 refine ⟨?_, (((h1.setNew (Nat.le_refl _) _ _).setNew (Nat.le_refl _) _ _).setNew (Nat.le_refl _) _ _).setNew (Nat.le_refl _) _ _, ?_⟩
 ·have := (((h3.set 0 (.int .i64 k)).set 1 (.string t)).set 2 (.int .i64 n)).set 3 (.int .i64 o)
  simpa using this
 ·exact (((h2.far (p := ⟨w.heap.size, 0, none⟩) hne _).far (p := ⟨w.heap.size, 1, none⟩) hne _).far (p := ⟨w.heap.size, 2, none⟩) hne _).far (p := ⟨w.heap.size, 3, none⟩) hne _
theorem bsL_size (l : List UInt8) : (bsL l).size = l.length := by unfold bsL; show l.toArray.size = _; simp
/-- a token is stored in a block of the round -/
theorem tok_put {q tb i : Nat} {s : ByteArray} {er : Int} {t : Tok} {wr w3 w5 : World} (h0 : Wr q wr w3) (hb : Blk w3 tb 126 zeroTok) (h1 : Wr q w3 w5) (h2 : Src w5 q s i er) (hz : wr.heap.size ≤ tb) (hne : q ≠ tb) :
  Wr q wr (putT w5 tb t.kind (bsL t.text) t.n t.off) ∧ Src (putT w5 tb t.kind (bsL t.text) t.n t.off) q s i er ∧ Blk (putT w5 tb t.kind (bsL t.text) t.n t.off) tb 126 (tokC t) := by
 have h3 : Blk w5 tb 126 zeroTok := (h1.block tb hb.lt (Ne.symm hne)).trans hb
 unfold putT
 refine ⟨((((h0.trans h1).setNew hz _ _).setNew hz _ _).setNew hz _ _).setNew hz _ _, (((h2.far (p := ⟨tb, 0, none⟩) hne _).far (p := ⟨tb, 1, none⟩) hne _).far (p := ⟨tb, 2, none⟩) hne _).far (p := ⟨tb, 3, none⟩) hne _, ?_⟩
 have := (((h3.set 0 (.int .i64 t.kind)).set 1 (.string (bsL t.text))).set 2 (.int .i64 t.n)).set 3 (.int .i64 t.off)
 simpa using this
set_option maxHeartbeats 1000000 in
theorem kword_any (q i : Nat) (s : ByteArray) (w : World) (h : Src w q s i 0) (hi : i ≤ s.size) (hs : s.size ≤ 4000) :
  Calls Tryz.prog 105 #[.pointer (some ⟨q, 0, none⟩)] w (RetK q s i (tokW i (s.data.toList.drop i)) w) := by
 obtain ⟨en, HE⟩ : ∃ en, Box (i + twN wrdB s i = en) := ⟨_, ⟨rfl⟩⟩
 have hen : i ≤ en ∧ en ≤ s.size := by have := twN_le (f := wrdB) hi; have := HE.out; omega
 have HT : Box (s.extract i en = bsL ((s.data.toList.drop i).takeWhile wrdB)) := ⟨by rw [← HE.out]; exact ext_tw _ _ _⟩
 obtain ⟨er, HR⟩ : ∃ er, Box ((tokW i (s.data.toList.drop i)).1 = er) := ⟨_, ⟨rfl⟩⟩
 have HR2 : Box (er = if 16 < en - i then 4 else 0) := ⟨by rw [← HR.out, ← HE.out]; unfold tokW; simp only; rw [show (List.takeWhile wrdB (List.drop i s.data.toList)).length = twN wrdB s i from rfl, Nat.add_sub_cancel_left]⟩
 have H0 := Box.mk h
 have c0 := h.c3
 obtain ⟨c0, c1, c2⟩ := c0
 have cf := h.frozen
 have hq := h.lt
 have hq2 : ¬ w.heap.size = q := by omega
 have hq3 : ¬ q = w.heap.size := by omega
 clear h
 go_enter Tryz.func105, Tryz.ntmps105
 go_wp2_with fail
 refine (krun_word q i s i 0 _ (H0.out.alloc _) hi hs).mono ?_
 rintro e w1 ⟨rfl, rfl⟩
 rw [HE.out]
 have hsub : IntKind.i64.wrap ((en : Int) - (i : Int)) = (en : Int) - (i : Int) := by rw [IntKind.wrap_i64]; omega
 have HW : Box (Wr q w (w.alloc (.cells zeroTok 126)) ∧ Src (w.alloc (.cells zeroTok 126)) q s i 0 ∧ Blk (w.alloc (.cells zeroTok 126)) w.heap.size 126 zeroTok) := ⟨(Wr.refl q w).alloc _, H0.out.alloc _, Blk.new _ _ _⟩
 by_cases hl : 16 < en - i
 ·have hl2 : (16 : Int) < (en : Int) - (i : Int) := by omega
  obtain rfl : er = 4 := by rw [HR2.out, if_pos hl]
  have HW4 : Box (Wr q w ((w.setCell ⟨q, 2, none⟩ (.int .i64 4)).alloc (.cells zeroTok 126)) ∧ Src ((w.setCell ⟨q, 2, none⟩ (.int .i64 4)).alloc (.cells zeroTok 126)) q s i 4 ∧ Blk ((w.setCell ⟨q, 2, none⟩ (.int .i64 4)).alloc (.cells zeroTok 126)) w.heap.size 126 zeroTok) :=
   ⟨((Wr.refl q w).set 2 _).alloc _, Blk.alloc (by have := H0.out.set 2 (.int .i64 4); simpa using this) _, Blk.newAt _ _ (by simp [World.setCell])⟩
  go_upto_region 4 with (fail)
  generalize (w.setCell ⟨q, 2, none⟩ (.int .i64 4)).alloc (.cells zeroTok 126) = W at *
  clear c0 c1 c2 cf
  obtain ⟨c0, c1, c2⟩ := HW4.out.2.1.c3
  obtain ⟨t0, t1, t2, t3⟩ := HW4.out.2.2.c4
  have tf := HW4.out.2.2.frozen
  go_region
  go_wp2_with fail
  clear c0 c1 c2 t0 t1 t2 t3 tf
  have HF := Box.mk (tok_fin (k := 0) (t := s.extract i en) (n := 0) (o := i) HW4.out.1 HW4.out.2.1 HW4.out.2.2 hq)
  clear HW4
  show bodyPost _ _ _ _ _ (putT W w.heap.size 0 (s.extract i en) 0 i).drew
  generalize (putT W w.heap.size 0 (s.extract i en) 0 i).drew = WF at HF ⊢
  obtain ⟨t0, t1, t2, t3⟩ := HF.out.1.c4
  have tf := HF.out.1.frozen
  exact bodyPost_ret (v := .agg #[.int .i64 0, .string (s.extract i en), .int .i64 0, .int .i64 i]) (by simp [results, Tryz.results105, go_sem, t0, t1, t2, t3, tf]) rfl ⟨by rw [HT.out]; rfl, by rw [HR.out]; exact HF.out.2.2, HF.out.2.1⟩
 ·have hl2 : ¬ (16 : Int) < (en : Int) - (i : Int) := by omega
  obtain rfl : er = 0 := by rw [HR2.out, if_neg hl]
  go_upto_region 4 with (fail)
  generalize w.alloc (.cells zeroTok 126) = W at *
  clear c0 c1 c2 cf
  obtain ⟨c0, c1, c2⟩ := HW.out.2.1.c3
  obtain ⟨t0, t1, t2, t3⟩ := HW.out.2.2.c4
  have tf := HW.out.2.2.frozen
  go_region
  go_wp2_with fail
  clear c0 c1 c2 t0 t1 t2 t3 tf
  have HF := Box.mk (tok_fin (k := 0) (t := s.extract i en) (n := 0) (o := i) HW.out.1 HW.out.2.1 HW.out.2.2 hq)
  clear HW
  show bodyPost _ _ _ _ _ (putT W w.heap.size 0 (s.extract i en) 0 i).drew
  generalize (putT W w.heap.size 0 (s.extract i en) 0 i).drew = WF at HF ⊢
  obtain ⟨t0, t1, t2, t3⟩ := HF.out.1.c4
  have tf := HF.out.1.frozen
  exact bodyPost_ret (v := .agg #[.int .i64 0, .string (s.extract i en), .int .i64 0, .int .i64 i]) (by simp [results, Tryz.results105, go_sem, t0, t1, t2, t3, tf]) rfl ⟨by rw [HT.out]; rfl, by rw [HR.out]; exact HF.out.2.2, HF.out.2.1⟩
end
end Go.Proofs.YtkdojgkiclndfaaGreatDoor
