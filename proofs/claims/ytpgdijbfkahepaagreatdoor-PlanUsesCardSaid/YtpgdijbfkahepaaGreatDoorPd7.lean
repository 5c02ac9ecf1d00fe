/- Contracts, packed: Kd Ke. -/
import Derived.Test.YtpgdijbfkahepaaGreatDoorPd4
set_option linter.unusedVariables false
set_option linter.unusedSimpArgs false
namespace Go.Proofs.YtpgdijbfkahepaaGreatDoor
section
open Go.RowKit
abbrev tokC (t : Tok) : Array Value := #[.int .i64 t.kind, .string (bsL t.text), .int .i64 t.n, .int .i64 (t.off : Int)]
theorem Wr.alloc {q : Nat} {A B : World} (h : Wr q A B) (o : Obj) : Wr q A (B.alloc o) :=
 ⟨h.ko.trans (KeepsOthers.alloc _ _), h.os, h.tape, h.output, fun k hk hn => (Below.heap_alloc B o k (Nat.lt_of_lt_of_le hk h.ko.size)).trans (h.block k hk hn)⟩
theorem Wr.set {q : Nat} {A B : World} (h : Wr q A B) (k : Nat) (v : Value) : Wr q A (B.setCell ⟨q, k, none⟩ v) :=
 ⟨h.ko.trans (KeepsOthers.setCell _ _ _), h.os, h.tape, h.output, fun i hi hn => (Below.heap_setCell _ _ _ _ hn).trans (h.block i hi hn)⟩
theorem Wr.setNew {q : Nat} {A B : World} (h : Wr q A B) {g : Nat} (hg : A.heap.size ≤ g) (k : Nat) (v : Value) : Wr q A (B.setCell ⟨g, k, none⟩ v) :=
 ⟨h.ko.trans (KeepsOthers.setCell _ _ _), h.os, h.tape, h.output, fun i hi hn => (Below.heap_setCell _ _ _ _ (by simp only; omega)).trans (h.block i hi hn)⟩
theorem Wr.drew {q : Nat} {A B : World} (h : Wr q A B) : Wr q A B.drew := ⟨⟨h.ko.size, h.ko.same⟩, h.os, h.tape, h.output, h.block⟩
theorem Wr.drewN {q : Nat} {A B : World} (h : Wr q A B) (n : Nat) : Wr q A (B.drewN n) := ⟨⟨h.ko.size, h.ko.same⟩, h.os, h.tape, h.output, h.block⟩
abbrev zeroTok : Array Value := #[.int .i64 0, .string ⟨#[]⟩, .int .i64 0, .int .i64 0]
theorem Blk.c4 {w : World} {b : Nat} {t : TypeId} {v0 v1 v2 v3 : Value} (h : Blk w b t #[v0, v1, v2, v3]) : w.cell? ⟨b, 0, none⟩ = some v0 ∧ w.cell? ⟨b, 1, none⟩ = some v1 ∧ w.cell? ⟨b, 2, none⟩ = some v2 ∧ w.cell? ⟨b, 3, none⟩ = some v3 := by
 unfold Blk at h
 refine ⟨?_, ?_, ?_, ?_⟩ <;> simp [World.cell?, h]
/-- what a function that reads a token hands back -/
def RetK (q : Nat) (s : ByteArray) (i : Nat) (r : Int × Tok × Nat) (w : World) (e : Ending) (w' : World) : Prop := e = .returned (.agg (tokC r.2.1)) ∧ Src w' q s i r.1 ∧ Wr q w w'
theorem ext_bs (s : ByteArray) (i n : Nat) : s.extract i (i + n) = bsL ((s.data.toList.drop i).take n) := by
 apply ByteArray.ext
 rw [ByteArray.data_extract]
 unfold bsL
 apply Array.toList_inj.1
 simp [Array.toList_extract, List.extract_eq_take_drop]
theorem tw_take (f : UInt8 → Bool) (l : List UInt8) : l.take (l.takeWhile f).length = l.takeWhile f := by
 induction l with
 | nil => rfl
 | cons c r ih =>
  rw [List.takeWhile_cons]
  split
  ·rw [List.length_cons, List.take_succ_cons, ih]
  ·rfl
theorem ext_tw (f : UInt8 → Bool) (s : ByteArray) (i : Nat) : s.extract i (i + twN f s i) = bsL ((s.data.toList.drop i).takeWhile f) := by
 rw [ext_bs]; unfold twN; rw [tw_take]
/-- the four cells of a token, written -/
def putT (W : World) (g : Nat) (k : Int) (t : ByteArray) (n o : Int) : World := (((W.setCell ⟨g, 0, none⟩ (.int .i64 k)).setCell ⟨g, 1, none⟩ (.string t)).setCell ⟨g, 2, none⟩ (.int .i64 n)).setCell ⟨g, 3, none⟩ (.int .i64 o)
theorem tok_fin {q : Nat} {s : ByteArray} {i er k n o : Int} {t : ByteArray} {w W : World} (h1 : Wr q w W) (h2 : Src W q s i er) (h3 : Blk W w.heap.size 103 zeroTok) (hq : q < w.heap.size) :
  Blk (putT W w.heap.size k t n o).drew w.heap.size 103 #[.int .i64 k, .string t, .int .i64 n, .int .i64 o] ∧ Wr q w (putT W w.heap.size k t n o).drew ∧ Src (putT W w.heap.size k t n o).drew q s i er := by
 have hne : q ≠ w.heap.size := by omega
 unfold putT
 refine ⟨?_, ((((h1.setNew (Nat.le_refl _) _ _).setNew (Nat.le_refl _) _ _).setNew (Nat.le_refl _) _ _).setNew (Nat.le_refl _) _ _).drew, ?_⟩
 ·have := (((h3.set 0 (.int .i64 k)).set 1 (.string t)).set 2 (.int .i64 n)).set 3 (.int .i64 o)
  exact Blk.drewN (by simpa using this) 1
 ·exact Blk.drewN ((((h2.far (p := ⟨w.heap.size, 0, none⟩) hne _).far (p := ⟨w.heap.size, 1, none⟩) hne _).far (p := ⟨w.heap.size, 2, none⟩) hne _).far (p := ⟨w.heap.size, 3, none⟩) hne _) 1
theorem tok_fin0 {q : Nat} {s : ByteArray} {i er k n o : Int} {t : ByteArray} {w W : World} (h1 : Wr q w W) (h2 : Src W q s i er) (h3 : Blk W w.heap.size 103 zeroTok) (hq : q < w.heap.size) :
  Blk (putT W w.heap.size k t n o) w.heap.size 103 #[.int .i64 k, .string t, .int .i64 n, .int .i64 o] ∧ Wr q w (putT W w.heap.size k t n o) ∧ Src (putT W w.heap.size k t n o) q s i er := by
 have hne : q ≠ w.heap.size := by omega
 unfold putT
 refine ⟨?_, (((h1.setNew (Nat.le_refl _) _ _).setNew (Nat.le_refl _) _ _).setNew (Nat.le_refl _) _ _).setNew (Nat.le_refl _) _ _, ?_⟩
 ·have := (((h3.set 0 (.int .i64 k)).set 1 (.string t)).set 2 (.int .i64 n)).set 3 (.int .i64 o)
  simpa using this
 ·exact (((h2.far (p := ⟨w.heap.size, 0, none⟩) hne _).far (p := ⟨w.heap.size, 1, none⟩) hne _).far (p := ⟨w.heap.size, 2, none⟩) hne _).far (p := ⟨w.heap.size, 3, none⟩) hne _
theorem bsL_size (l : List UInt8) : (bsL l).size = l.length := by unfold bsL; show l.toArray.size = _; simp
/-- a token is stored in a block of the round -/
theorem tok_put {q tb i : Nat} {s : ByteArray} {er : Int} {t : Tok} {wr w3 w5 : World} (h0 : Wr q wr w3) (hb : Blk w3 tb 103 zeroTok) (h1 : Wr q w3 w5) (h2 : Src w5 q s i er) (hz : wr.heap.size ≤ tb) (hne : q ≠ tb) :
  Wr q wr (putT w5 tb t.kind (bsL t.text) t.n t.off) ∧ Src (putT w5 tb t.kind (bsL t.text) t.n t.off) q s i er ∧ Blk (putT w5 tb t.kind (bsL t.text) t.n t.off) tb 103 (tokC t) := by
 have h3 : Blk w5 tb 103 zeroTok := (h1.block tb hb.lt (Ne.symm hne)).trans hb
 unfold putT
 refine ⟨((((h0.trans h1).setNew hz _ _).setNew hz _ _).setNew hz _ _).setNew hz _ _, (((h2.far (p := ⟨tb, 0, none⟩) hne _).far (p := ⟨tb, 1, none⟩) hne _).far (p := ⟨tb, 2, none⟩) hne _).far (p := ⟨tb, 3, none⟩) hne _, ?_⟩
 have := (((h3.set 0 (.int .i64 t.kind)).set 1 (.string (bsL t.text))).set 2 (.int .i64 t.n)).set 3 (.int .i64 t.off)
 simpa using this
set_option maxHeartbeats 1000000 in
theorem kword_any (q i : Nat) (s : ByteArray) (w : World) (h : Src w q s i 0) (hi : i ≤ s.size) (hs : s.size ≤ 4000) :
  Calls Tryz.prog 72 #[.pointer (some ⟨q, 0, none⟩)] w (RetK q s i (tokW i (s.data.toList.drop i)) w) := by
 obtain ⟨en, HE⟩ : ∃ en, Box (i + twN wrdB s i = en) := ⟨_, ⟨rfl⟩⟩
 have hen : i ≤ en ∧ en ≤ s.size := by have := twN_le (f := wrdB) hi; have := HE.out; omega
 have HT : Box (s.extract i en = bsL ((s.data.toList.drop i).takeWhile wrdB)) := ⟨by rw [← HE.out]; exact ext_tw _ _ _⟩
 obtain ⟨er, HR⟩ : ∃ er, Box ((tokW i (s.data.toList.drop i)).1 = er) := ⟨_, ⟨rfl⟩⟩
 have HR2 : Box (er = if 16 < en - i then 4 else 0) := ⟨by rw [← HR.out, ← HE.out]; unfold tokW; simp only; rw [show (List.takeWhile wrdB (List.drop i s.data.toList)).length = twN wrdB s i from rfl, Nat.add_sub_cancel_left]⟩
 have H0 := Box.mk h
 have c0 := h.c3
 obtain ⟨c0, c1, c2⟩ := c0
 have cf := h.frozen
 have hq := h.lt
 have hq2 : ¬ w.heap.size = q := by omega
 have hq3 : ¬ q = w.heap.size := by omega
 clear h
 go_enter Tryz.func72, Tryz.ntmps72
 go_wp2_with fail
 refine (krun_word q i s i 0 _ (H0.out.alloc _) hi hs).mono ?_
 rintro e w1 ⟨rfl, rfl⟩
 rw [HE.out]
 have hsub : IntKind.i64.wrap ((en : Int) - (i : Int)) = (en : Int) - (i : Int) := by rw [IntKind.wrap_i64]; omega
 have HW : Box (Wr q w (w.alloc (.cells zeroTok 103)) ∧ Src (w.alloc (.cells zeroTok 103)) q s i 0 ∧ Blk (w.alloc (.cells zeroTok 103)) w.heap.size 103 zeroTok) := ⟨(Wr.refl q w).alloc _, H0.out.alloc _, Blk.new _ _ _⟩
 by_cases hl : 16 < en - i
 ·have hl2 : (16 : Int) < (en : Int) - (i : Int) := by omega
  obtain rfl : er = 4 := by rw [HR2.out, if_pos hl]
  have HW4 : Box (Wr q w ((w.setCell ⟨q, 2, none⟩ (.int .i64 4)).alloc (.cells zeroTok 103)) ∧ Src ((w.setCell ⟨q, 2, none⟩ (.int .i64 4)).alloc (.cells zeroTok 103)) q s i 4 ∧ Blk ((w.setCell ⟨q, 2, none⟩ (.int .i64 4)).alloc (.cells zeroTok 103)) w.heap.size 103 zeroTok) :=
   ⟨((Wr.refl q w).set 2 _).alloc _, Blk.alloc (by have := H0.out.set 2 (.int .i64 4); simpa using this) _, Blk.newAt _ _ (by simp [World.setCell])⟩
  go_upto_region 4 with (fail)
  generalize (w.setCell ⟨q, 2, none⟩ (.int .i64 4)).alloc (.cells zeroTok 103) = W at *
  clear c0 c1 c2 cf
  obtain ⟨c0, c1, c2⟩ := HW4.out.2.1.c3
  obtain ⟨t0, t1, t2, t3⟩ := HW4.out.2.2.c4
  have tf := HW4.out.2.2.frozen
  go_region
  go_wp2_with fail
  clear c0 c1 c2 t0 t1 t2 t3 tf
  have HF := Box.mk (tok_fin (k := 0) (t := s.extract i en) (n := 0) (o := i) HW4.out.1 HW4.out.2.1 HW4.out.2.2 hq)
  clear HW4
  show bodyPost _ _ _ _ _ (putT W w.heap.size 0 (s.extract i en) 0 i).drew
  generalize (putT W w.heap.size 0 (s.extract i en) 0 i).drew = WF at HF ⊢
  obtain ⟨t0, t1, t2, t3⟩ := HF.out.1.c4
  have tf := HF.out.1.frozen
  exact bodyPost_ret (v := .agg #[.int .i64 0, .string (s.extract i en), .int .i64 0, .int .i64 i]) (by simp [results, Tryz.results72, go_sem, t0, t1, t2, t3, tf]) rfl ⟨by rw [HT.out]; rfl, by rw [HR.out]; exact HF.out.2.2, HF.out.2.1⟩
 ·have hl2 : ¬ (16 : Int) < (en : Int) - (i : Int) := by omega
  obtain rfl : er = 0 := by rw [HR2.out, if_neg hl]
  go_upto_region 4 with (fail)
  generalize w.alloc (.cells zeroTok 103) = W at *
  clear c0 c1 c2 cf
  obtain ⟨c0, c1, c2⟩ := HW.out.2.1.c3
  obtain ⟨t0, t1, t2, t3⟩ := HW.out.2.2.c4
  have tf := HW.out.2.2.frozen
  go_region
  go_wp2_with fail
  clear c0 c1 c2 t0 t1 t2 t3 tf
  have HF := Box.mk (tok_fin (k := 0) (t := s.extract i en) (n := 0) (o := i) HW.out.1 HW.out.2.1 HW.out.2.2 hq)
  clear HW
  show bodyPost _ _ _ _ _ (putT W w.heap.size 0 (s.extract i en) 0 i).drew
  generalize (putT W w.heap.size 0 (s.extract i en) 0 i).drew = WF at HF ⊢
  obtain ⟨t0, t1, t2, t3⟩ := HF.out.1.c4
  have tf := HF.out.1.frozen
  exact bodyPost_ret (v := .agg #[.int .i64 0, .string (s.extract i en), .int .i64 0, .int .i64 i]) (by simp [results, Tryz.results72, go_sem, t0, t1, t2, t3, tf]) rfl ⟨by rw [HT.out]; rfl, by rw [HR.out]; exact HF.out.2.2, HF.out.2.1⟩
end
section
open Go.RowKit
theorem tw_at (f : UInt8 → Bool) : ∀ (l : List UInt8) (j : Nat), j < (l.takeWhile f).length → ∃ c, l[j]? = some c ∧ f c = true ∧ (l.takeWhile f).drop j = c :: (l.takeWhile f).drop (j + 1)
 | [], j, h => by simp at h
 | x :: r, j, h => by
  rw [List.takeWhile_cons] at h ⊢
  cases hf : f x
  ·rw [hf] at h; simp at h
  ·rw [hf] at h
   simp only [if_true, List.length_cons] at h ⊢
   cases j with
   | zero => exact ⟨x, rfl, hf, by simp⟩
   | succ j =>
    obtain ⟨c, h1, h2, h3⟩ := tw_at f r j (by omega)
    exact ⟨c, by simpa using h1, h2, by simpa using h3⟩
theorem twN_at {f : UInt8 → Bool} {s : ByteArray} {i k : Nat} (h1 : i ≤ k) (h2 : k < i + twN f s i) (hk : k < s.size) : f s[k] = true ∧ ((s.data.toList.drop i).takeWhile f).drop (k - i) = s[k] :: ((s.data.toList.drop i).takeWhile f).drop (k + 1 - i) := by
 obtain ⟨c, h3, h4, h5⟩ := tw_at f (s.data.toList.drop i) (k - i) (by unfold twN at h2; omega)
 rw [List.getElem?_drop, show i + (k - i) = k by omega] at h3
 have h6 : s.data.toList[k]? = some s[k] := by
  rw [List.getElem?_eq_getElem (by rw [data_size]; exact hk)]; rfl
 rw [h6] at h3
 cases h3
 exact ⟨h4, by rw [h5, show k - i + 1 = k + 1 - i by omega]⟩
theorem numV_big {n : Int} (h : 1073741824 < n) : ∀ l, numV n l = n
 | [] => rfl
 | c :: r => by rw [numV, if_neg (by omega)]
set_option maxHeartbeats 1000000 in
theorem knumber_any (q i : Nat) (s : ByteArray) (w : World) (h : Src w q s i 0) (hi : i ≤ s.size) (hs : s.size ≤ 4000) :
  Calls Tryz.prog 74 #[.pointer (some ⟨q, 0, none⟩)] w (RetK q s i (tokN i (s.data.toList.drop i)) w) := by
 obtain ⟨en, HE⟩ : ∃ en, Box (i + twN digB s i = en) := ⟨_, ⟨rfl⟩⟩
 have hen : i ≤ en ∧ en ≤ s.size := by have := twN_le (f := digB) hi; have := HE.out; omega
 have hen1 := hen.1
 have hen2 := hen.2
 have HT : Box (s.extract i en = bsL ((s.data.toList.drop i).takeWhile digB)) := ⟨by rw [← HE.out]; exact ext_tw _ _ _⟩
 obtain ⟨V, HV⟩ : ∃ V, Box (numV 0 ((s.data.toList.drop i).takeWhile digB) = V) := ⟨_, ⟨rfl⟩⟩
 have HR : Box (tokN i (s.data.toList.drop i) = (if 1073741824 < V then 5 else 0, ⟨1, (s.data.toList.drop i).takeWhile digB, V, i⟩, en - i)) := ⟨by
  rw [← HV.out, ← HE.out]; unfold tokN; rw [show (List.takeWhile digB (List.drop i s.data.toList)).length = twN digB s i from rfl, Nat.add_sub_cancel_left]⟩
 have H0 := Box.mk h
 obtain ⟨c0, c1, c2⟩ := h.c3
 have cf := h.frozen
 have hq := h.lt
 have hq2 : ¬ w.heap.size = q := by omega
 have hq3 : ¬ q = w.heap.size := by omega
 clear h
 go_enter Tryz.func74, Tryz.ntmps74
 go_wp2_with fail
 refine (krun_digit q i s i 0 _ (H0.out.alloc _) hi hs).mono ?_
 rintro e w1 ⟨rfl, rfl⟩
 rw [HE.out]
 have HW : Box (Wr q w (w.alloc (.cells zeroTok 103)) ∧ Src (w.alloc (.cells zeroTok 103)) q s i 0 ∧ Blk (w.alloc (.cells zeroTok 103)) w.heap.size 103 zeroTok) := ⟨(Wr.refl q w).alloc _, H0.out.alloc _, Blk.new _ _ _⟩
 go_wp2_with fail
 go_loop [4, 5] (fun v x => ∃ (k : Nat) (n : Int), x = .int .i64 k ∧ v = .int .i64 n ∧ i ≤ k ∧ k ≤ en ∧ 0 ≤ n ∧ n ≤ 99999999999 ∧ Hid (numV n (((s.data.toList.drop i).takeWhile digB).drop (k - i)) = V)) (fun _ x => en - (intOf x).toNat)
 case atStart => exact ⟨i, 0, rfl, rfl, Nat.le_refl _, hen1, by omega, by omega, by show numV 0 (((s.data.toList.drop i).takeWhile digB).drop (i - i)) = V; rw [Nat.sub_self, List.drop_zero]; exact HV.out⟩
 case round =>
  obtain ⟨k, n, rfl, rfl, hk1, hk2, hn1, hn2, HN⟩ := hrel
  by_cases hgo : k < en ∧ n ≤ 1073741824
  ·obtain ⟨hk3, hn3⟩ := hgo
   have hks : k < s.size := by omega
   obtain ⟨hd, hdr⟩ := twN_at (f := digB) (s := s) (i := i) hk1 (by rw [HE.out]; exact hk3) hks
   obtain ⟨d1, d2⟩ := (digB_iff _).1 hd
   have HN2 : Hid (numV (n * 10 + ((s[k].toNat : Int) - 48)) (((s.data.toList.drop i).takeWhile digB).drop (k + 1 - i)) = V) := by
    have := HN.out
    rw [hdr, numV, if_pos hn3] at this
    exact this
   have hk4 : (k : Int) < (en : Int) := by omega
   have hks2 : (k : Int) < (s.size : Int) := by omega
   clear hd hdr
   go_wp2_with fail
   go_round
   case rel => exact ⟨k + 1, _, by go_num, rfl, by omega, by omega, by omega, by omega, HN2.out⟩
   case measure => simp [intOf]; omega
  ·have HVn : Hid (n = V) := by
    have h5 := HN.out
    by_cases hk3 : k < en
    ·rw [numV_big (by omega)] at h5; exact h5
    ·rw [List.drop_eq_nil_of_le (by rw [show ((s.data.toList.drop i).takeWhile digB).length = twN digB s i from rfl]; have := HE.out; omega), numV] at h5; exact h5
   obtain rfl := HVn.out
   have hcase : (k : Int) < (en : Int) ∧ ¬ n ≤ 1073741824 ∨ ¬ (k : Int) < (en : Int) := by omega
   have HR1 : Box (n ≤ 1073741824 ∨ 1073741824 < n) := ⟨by omega⟩
   clear HN HVn hgo
   by_cases hbig : 1073741824 < n
   ·have HE5 : Box ((tokN i (s.data.toList.drop i)).1 = 5 ∧ (tokN i (s.data.toList.drop i)).2.1 = ⟨1, (s.data.toList.drop i).takeWhile digB, n, i⟩) := ⟨by rw [HR.out]; simp only [if_pos hbig, and_self]⟩
    have HW4 : Box (Wr q w ((w.setCell ⟨q, 2, none⟩ (.int .i64 5)).alloc (.cells zeroTok 103)) ∧ Src ((w.setCell ⟨q, 2, none⟩ (.int .i64 5)).alloc (.cells zeroTok 103)) q s i 5 ∧ Blk ((w.setCell ⟨q, 2, none⟩ (.int .i64 5)).alloc (.cells zeroTok 103)) w.heap.size 103 zeroTok) :=
     ⟨((Wr.refl q w).set 2 _).alloc _, Blk.alloc (by have := H0.out.set 2 (.int .i64 5); simpa using this) _, Blk.newAt _ _ (by simp [World.setCell])⟩
    rcases hcase with ⟨hc1, hc2⟩ | hc1
    all_goals
     go_upto_region 9 with (fail)
     generalize (w.setCell ⟨q, 2, none⟩ (.int .i64 5)).alloc (.cells zeroTok 103) = W at *
     clear c0 c1 c2 cf
     obtain ⟨c0, c1, c2⟩ := HW4.out.2.1.c3
     obtain ⟨t0, t1, t2, t3⟩ := HW4.out.2.2.c4
     have tf := HW4.out.2.2.frozen
     go_region
     go_wp2_with fail
     clear c0 c1 c2 t0 t1 t2 t3 tf
     have HF := Box.mk (tok_fin (k := 1) (t := s.extract i en) (n := n) (o := i) HW4.out.1 HW4.out.2.1 HW4.out.2.2 hq)
     clear HW4
     show bodyPost _ _ _ _ _ (putT W w.heap.size 1 (s.extract i en) n i).drew
     generalize (putT W w.heap.size 1 (s.extract i en) n i).drew = WF at HF ⊢
     obtain ⟨t0, t1, t2, t3⟩ := HF.out.1.c4
     have tf := HF.out.1.frozen
     exact bodyPost_ret (v := .agg #[.int .i64 1, .string (s.extract i en), .int .i64 n, .int .i64 i]) (by simp [results, Tryz.results74, go_sem, t0, t1, t2, t3, tf]) rfl ⟨by rw [HE5.out.2, HT.out], by rw [HE5.out.1]; exact HF.out.2.2, HF.out.2.1⟩
   ·have HE5 : Box ((tokN i (s.data.toList.drop i)).1 = 0 ∧ (tokN i (s.data.toList.drop i)).2.1 = ⟨1, (s.data.toList.drop i).takeWhile digB, n, i⟩) := ⟨by rw [HR.out]; simp only [if_neg hbig, and_self]⟩
    rcases hcase with ⟨hc1, hc2⟩ | hc1
    ·exact absurd hc2 (by omega)
    go_upto_region 9 with (fail)
    generalize w.alloc (.cells zeroTok 103) = W at *
    clear c0 c1 c2 cf
    obtain ⟨c0, c1, c2⟩ := HW.out.2.1.c3
    obtain ⟨t0, t1, t2, t3⟩ := HW.out.2.2.c4
    have tf := HW.out.2.2.frozen
    go_region
    go_wp2_with fail
    clear c0 c1 c2 t0 t1 t2 t3 tf
    have HF := Box.mk (tok_fin (k := 1) (t := s.extract i en) (n := n) (o := i) HW.out.1 HW.out.2.1 HW.out.2.2 hq)
    clear HW
    show bodyPost _ _ _ _ _ (putT W w.heap.size 1 (s.extract i en) n i).drew
    generalize (putT W w.heap.size 1 (s.extract i en) n i).drew = WF at HF ⊢
    obtain ⟨t0, t1, t2, t3⟩ := HF.out.1.c4
    have tf := HF.out.1.frozen
    exact bodyPost_ret (v := .agg #[.int .i64 1, .string (s.extract i en), .int .i64 n, .int .i64 i]) (by simp [results, Tryz.results74, go_sem, t0, t1, t2, t3, tf]) rfl ⟨by rw [HE5.out.2, HT.out], by rw [HE5.out.1]; exact HF.out.2.2, HF.out.2.1⟩
end
end Go.Proofs.YtpgdijbfkahepaaGreatDoor
