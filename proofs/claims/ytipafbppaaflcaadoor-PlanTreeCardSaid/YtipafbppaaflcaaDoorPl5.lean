/- Contracts, packed: Kd Match Match2 Qa Qv Yb Yc. -/
import Derived.Test.YtipafbppaaflcaaDoorPl1
import Derived.Test.YtipafbppaaflcaaDoorPl2
import Derived.Test.YtipafbppaaflcaaDoorPl3
import Derived.Test.YtipafbppaaflcaaDoorPl4
import Derived.Deep.RegionHeld3
import Derived.WalkSmall
set_option linter.unusedVariables false
set_option linter.unusedSimpArgs false
namespace Go.Proofs.YtipafbppaaflcaaDoor
section
open Go.RowKit
abbrev tokC (t : Tok) : Array Value := #[.int .i64 t.kind, .string (bsL t.text), .int .i64 t.n, .int .i64 (t.off : Int)]
theorem Wr.alloc {q : Nat} {A B : World} (h : Wr q A B) (o : Obj) : Wr q A (B.alloc o) :=
 ⟨h.ko.trans (KeepsOthers.alloc _ _), h.os, h.tape, h.output, fun k hk hn => (Below.heap_alloc B o k (Nat.lt_of_lt_of_le hk h.ko.size)).trans (h.block k hk hn)⟩
theorem Wr.set {q : Nat} {A B : World} (h : Wr q A B) (k : Nat) (v : Value) : Wr q A (B.setCell ⟨q, k, none⟩ v) :=
 ⟨h.ko.trans (KeepsOthers.setCell _ _ _), h.os, h.tape, h.output, fun i hi hn => (Below.heap_setCell _ _ _ _ hn).trans (h.block i hi hn)⟩
theorem Wr.setNew {q : Nat} {A B : World} (h : Wr q A B) {g : Nat} (hg : A.heap.size ≤ g) (k : Nat) (v : Value) : Wr q A (B.setCell ⟨g, k, none⟩ v) :=
 ⟨h.ko.trans (KeepsOthers.setCell _ _ _), h.os, h.tape, h.output, fun i hi hn => (Below.heap_setCell _ _ _ _ (by simp only; omega)).trans (h.block i hi hn)⟩
theorem Wr.drew {q : Nat} {A B : World} (h : Wr q A B) : Wr q A B.drew := ⟨⟨h.ko.size, h.ko.same⟩, h.os, h.tape, h.output, h.block⟩
theorem Wr.drewN {q : Nat} {A B : World} (h : Wr q A B) (n : Nat) : Wr q A (B.drewN n) := ⟨⟨h.ko.size, h.ko.same⟩, h.os, h.tape, h.output, h.block⟩
abbrev zeroTok : Array Value := #[.int .i64 0, .string ⟨#[]⟩, .int .i64 0, .int .i64 0]
theorem Blk.c4 {w : World} {b : Nat} {t : TypeId} {v0 v1 v2 v3 : Value} (h : Blk w b t #[v0, v1, v2, v3]) : w.cell? ⟨b, 0, none⟩ = some v0 ∧ w.cell? ⟨b, 1, none⟩ = some v1 ∧ w.cell? ⟨b, 2, none⟩ = some v2 ∧ w.cell? ⟨b, 3, none⟩ = some v3 := by
 unfold Blk at h
 refine ⟨?_, ?_, ?_, ?_⟩ <;> simp [World.cell?, h]
/-- what a function that reads a token hands back -/
def RetK (q : Nat) (s : ByteArray) (i : Nat) (r : Int × Tok × Nat) (w : World) (e : Ending) (w' : World) : Prop := e = .returned (.agg (tokC r.2.1)) ∧ Src w' q s i r.1 ∧ Wr q w w'
theorem ext_bs (s : ByteArray) (i n : Nat) : s.extract i (i + n) = bsL ((s.data.toList.drop i).take n) := by
 apply ByteArray.ext
 rw [ByteArray.data_extract]
 unfold bsL
 apply Array.toList_inj.1
 simp [Array.toList_extract, List.extract_eq_take_drop]
theorem tw_take (f : UInt8 → Bool) (l : List UInt8) : l.take (l.takeWhile f).length = l.takeWhile f := by
 induction l with
 | nil => rfl
 | cons c r ih =>
  rw [List.takeWhile_cons]
  split
  ·rw [List.length_cons, List.take_succ_cons, ih]
  ·rfl
theorem ext_tw (f : UInt8 → Bool) (s : ByteArray) (i : Nat) : s.extract i (i + twN f s i) = bsL ((s.data.toList.drop i).takeWhile f) := by
 rw [ext_bs]; unfold twN; rw [tw_take]
/-- the four cells of a token, written -/
def putT (W : World) (g : Nat) (k : Int) (t : ByteArray) (n o : Int) : World := (((W.setCell ⟨g, 0, none⟩ (.int .i64 k)).setCell ⟨g, 1, none⟩ (.string t)).setCell ⟨g, 2, none⟩ (.int .i64 n)).setCell ⟨g, 3, none⟩ (.int .i64 o)
theorem tok_fin {q : Nat} {s : ByteArray} {i er k n o : Int} {t : ByteArray} {w W : World} (h1 : Wr q w W) (h2 : Src W q s i er) (h3 : Blk W w.heap.size 125 zeroTok) (hq : q < w.heap.size) :
  Blk (putT W w.heap.size k t n o).drew w.heap.size 125 #[.int .i64 k, .string t, .int .i64 n, .int .i64 o] ∧ Wr q w (putT W w.heap.size k t n o).drew ∧ Src (putT W w.heap.size k t n o).drew q s i er := by
 have hne : q ≠ w.heap.size := by omega
 unfold putT
 refine ⟨?_, ((((h1.setNew (Nat.le_refl _) _ _).setNew (Nat.le_refl _) _ _).setNew (Nat.le_refl _) _ _).setNew (Nat.le_refl _) _ _).drew, ?_⟩
 ·have := (((h3.set 0 (.int .i64 k)).set 1 (.string t)).set 2 (.int .i64 n)).set 3 (.int .i64 o)
  exact Blk.drewN (by simpa using this) 1
 ·exact Blk.drewN ((((h2.far (p := ⟨w.heap.size, 0, none⟩) hne _).far (p := ⟨w.heap.size, 1, none⟩) hne _).far (p := ⟨w.heap.size, 2, none⟩) hne _).far (p := ⟨w.heap.size, 3, none⟩) hne _) 1
theorem tok_fin0 {q : Nat} {s : ByteArray} {i er k n o : Int} {t : ByteArray} {w W : World} (h1 : Wr q w W) (h2 : Src W q s i er) (h3 : Blk W w.heap.size 125 zeroTok) (hq : q < w.heap.size) :
  Blk (putT W w.heap.size k t n o) w.heap.size 125 #[.int .i64 k, .string t, .int .i64 n, .int .i64 o] ∧ Wr q w (putT W w.heap.size k t n o) ∧ Src (putT W w.heap.size k t n o) q s i er := by
 have hne : q ≠ w.heap.size := by omega
 unfold putT
 refine ⟨?_, (((h1.setNew (Nat.le_refl _) _ _).setNew (Nat.le_refl _) _ _).setNew (Nat.le_refl _) _ _).setNew (Nat.le_refl _) _ _, ?_⟩
 ·have := (((h3.set 0 (.int .i64 k)).set 1 (.string t)).set 2 (.int .i64 n)).set 3 (.int .i64 o)
  simpa using this
 ·exact (((h2.far (p := ⟨w.heap.size, 0, none⟩) hne _).far (p := ⟨w.heap.size, 1, none⟩) hne _).far (p := ⟨w.heap.size, 2, none⟩) hne _).far (p := ⟨w.heap.size, 3, none⟩) hne _
theorem bsL_size (l : List UInt8) : (bsL l).size = l.length := by unfold bsL; show l.toArray.size = _; simp
/-- a token is stored in a block of the round -/
theorem tok_put {q tb i : Nat} {s : ByteArray} {er : Int} {t : Tok} {wr w3 w5 : World} (h0 : Wr q wr w3) (hb : Blk w3 tb 125 zeroTok) (h1 : Wr q w3 w5) (h2 : Src w5 q s i er) (hz : wr.heap.size ≤ tb) (hne : q ≠ tb) :
  Wr q wr (putT w5 tb t.kind (bsL t.text) t.n t.off) ∧ Src (putT w5 tb t.kind (bsL t.text) t.n t.off) q s i er ∧ Blk (putT w5 tb t.kind (bsL t.text) t.n t.off) tb 125 (tokC t) := by
 have h3 : Blk w5 tb 125 zeroTok := (h1.block tb hb.lt (Ne.symm hne)).trans hb
 unfold putT
 refine ⟨((((h0.trans h1).setNew hz _ _).setNew hz _ _).setNew hz _ _).setNew hz _ _, (((h2.far (p := ⟨tb, 0, none⟩) hne _).far (p := ⟨tb, 1, none⟩) hne _).far (p := ⟨tb, 2, none⟩) hne _).far (p := ⟨tb, 3, none⟩) hne _, ?_⟩
 have := (((h3.set 0 (.int .i64 t.kind)).set 1 (.string (bsL t.text))).set 2 (.int .i64 t.n)).set 3 (.int .i64 t.off)
 simpa using this
set_option maxHeartbeats 1000000 in
theorem kword_any (q i : Nat) (s : ByteArray) (w : World) (h : Src w q s i 0) (hi : i ≤ s.size) (hs : s.size ≤ 4000) :
  Calls Tryd.prog 97 #[.pointer (some ⟨q, 0, none⟩)] w (RetK q s i (tokW i (s.data.toList.drop i)) w) := by
 obtain ⟨en, HE⟩ : ∃ en, Box (i + twN wrdB s i = en) := ⟨_, ⟨rfl⟩⟩
 have hen : i ≤ en ∧ en ≤ s.size := by have := twN_le (f := wrdB) hi; have := HE.out; omega
 have HT : Box (s.extract i en = bsL ((s.data.toList.drop i).takeWhile wrdB)) := ⟨by rw [← HE.out]; exact ext_tw _ _ _⟩
 obtain ⟨er, HR⟩ : ∃ er, Box ((tokW i (s.data.toList.drop i)).1 = er) := ⟨_, ⟨rfl⟩⟩
 have HR2 : Box (er = if 16 < en - i then 4 else 0) := ⟨by rw [← HR.out, ← HE.out]; unfold tokW; simp only; rw [show (List.takeWhile wrdB (List.drop i s.data.toList)).length = twN wrdB s i from rfl, Nat.add_sub_cancel_left]⟩
 have H0 := Box.mk h
 have c0 := h.c3
 obtain ⟨c0, c1, c2⟩ := c0
 have cf := h.frozen
 have hq := h.lt
 have hq2 : ¬ w.heap.size = q := by omega
 have hq3 : ¬ q = w.heap.size := by omega
 clear h
 go_enter Tryd.func97, Tryd.ntmps97
 go_wp2_with fail
 refine (krun_word q i s i 0 _ (H0.out.alloc _) hi hs).mono ?_
 rintro e w1 ⟨rfl, rfl⟩
 rw [HE.out]
 have hsub : IntKind.i64.wrap ((en : Int) - (i : Int)) = (en : Int) - (i : Int) := by rw [IntKind.wrap_i64]; omega
 have HW : Box (Wr q w (w.alloc (.cells zeroTok 125)) ∧ Src (w.alloc (.cells zeroTok 125)) q s i 0 ∧ Blk (w.alloc (.cells zeroTok 125)) w.heap.size 125 zeroTok) := ⟨(Wr.refl q w).alloc _, H0.out.alloc _, Blk.new _ _ _⟩
 by_cases hl : 16 < en - i
 ·have hl2 : (16 : Int) < (en : Int) - (i : Int) := by omega
  obtain rfl : er = 4 := by rw [HR2.out, if_pos hl]
  have HW4 : Box (Wr q w ((w.setCell ⟨q, 2, none⟩ (.int .i64 4)).alloc (.cells zeroTok 125)) ∧ Src ((w.setCell ⟨q, 2, none⟩ (.int .i64 4)).alloc (.cells zeroTok 125)) q s i 4 ∧ Blk ((w.setCell ⟨q, 2, none⟩ (.int .i64 4)).alloc (.cells zeroTok 125)) w.heap.size 125 zeroTok) :=
   ⟨((Wr.refl q w).set 2 _).alloc _, Blk.alloc (by have := H0.out.set 2 (.int .i64 4); simpa using this) _, Blk.newAt _ _ (by simp [World.setCell])⟩
  go_upto_region 4 with (fail)
  generalize (w.setCell ⟨q, 2, none⟩ (.int .i64 4)).alloc (.cells zeroTok 125) = W at *
  clear c0 c1 c2 cf
  obtain ⟨c0, c1, c2⟩ := HW4.out.2.1.c3
  obtain ⟨t0, t1, t2, t3⟩ := HW4.out.2.2.c4
  have tf := HW4.out.2.2.frozen
  go_region
  go_wp2_with fail
  clear c0 c1 c2 t0 t1 t2 t3 tf
  have HF := Box.mk (tok_fin (k := 0) (t := s.extract i en) (n := 0) (o := i) HW4.out.1 HW4.out.2.1 HW4.out.2.2 hq)
  clear HW4
  show bodyPost _ _ _ _ _ (putT W w.heap.size 0 (s.extract i en) 0 i).drew
  generalize (putT W w.heap.size 0 (s.extract i en) 0 i).drew = WF at HF ⊢
  obtain ⟨t0, t1, t2, t3⟩ := HF.out.1.c4
  have tf := HF.out.1.frozen
  exact bodyPost_ret (v := .agg #[.int .i64 0, .string (s.extract i en), .int .i64 0, .int .i64 i]) (by simp [results, Tryd.results97, go_sem, t0, t1, t2, t3, tf]) rfl ⟨by rw [HT.out]; rfl, by rw [HR.out]; exact HF.out.2.2, HF.out.2.1⟩
 ·have hl2 : ¬ (16 : Int) < (en : Int) - (i : Int) := by omega
  obtain rfl : er = 0 := by rw [HR2.out, if_neg hl]
  go_upto_region 4 with (fail)
  generalize w.alloc (.cells zeroTok 125) = W at *
  clear c0 c1 c2 cf
  obtain ⟨c0, c1, c2⟩ := HW.out.2.1.c3
  obtain ⟨t0, t1, t2, t3⟩ := HW.out.2.2.c4
  have tf := HW.out.2.2.frozen
  go_region
  go_wp2_with fail
  clear c0 c1 c2 t0 t1 t2 t3 tf
  have HF := Box.mk (tok_fin (k := 0) (t := s.extract i en) (n := 0) (o := i) HW.out.1 HW.out.2.1 HW.out.2.2 hq)
  clear HW
  show bodyPost _ _ _ _ _ (putT W w.heap.size 0 (s.extract i en) 0 i).drew
  generalize (putT W w.heap.size 0 (s.extract i en) 0 i).drew = WF at HF ⊢
  obtain ⟨t0, t1, t2, t3⟩ := HF.out.1.c4
  have tf := HF.out.1.frozen
  exact bodyPost_ret (v := .agg #[.int .i64 0, .string (s.extract i en), .int .i64 0, .int .i64 i]) (by simp [results, Tryd.results97, go_sem, t0, t1, t2, t3, tf]) rfl ⟨by rw [HT.out]; rfl, by rw [HR.out]; exact HF.out.2.2, HF.out.2.1⟩
end
section
open Go.RowKit
abbrev Lab := ByteArray × ByteArray
abbrev Mat := ByteArray × Int × ByteArray
def matCells (x : Mat) : List Value := [.string x.1, .int .i64 x.2.1, .string x.2.2]
theorem flat_len {α : Type} (f : α → List Value) (size : Nat) (hf : ∀ x, (f x).length = size) (l : List α) : (l.flatMap f).length = l.length * size := by
 induction l with
 | nil => simp
 | cons x r ih => rw [List.flatMap_cons, List.length_append, ih, hf, List.length_cons, Nat.succ_mul]; omega
theorem flat_get {α : Type} (f : α → List Value) (size : Nat) (hf : ∀ x, (f x).length = size) (l : List α) (i j : Nat) (x : α) (hi : l[i]? = some x) (hj : j < size) :
  (l.flatMap f)[i * size + j]? = (f x)[j]? := by
 induction l generalizing i with
 | nil => simp at hi
 | cons y r ih =>
  rw [List.flatMap_cons]
  cases i with
  | zero =>
   simp at hi; subst hi
   rw [List.getElem?_append_left (by rw [hf]; omega)]; simp
  | succ i =>
   simp at hi
   rw [List.getElem?_append_right (by rw [hf, Nat.succ_mul]; omega), hf]
   rw [show (i + 1) * size + j - size = i * size + j by rw [Nat.succ_mul]; omega]
   exact ih i hi
def Mats (w : World) (base : Nat) (v : Value) (l : List Mat) : Prop := Seq w base 71 3 v l.length (l.flatMap matCells)
theorem Mats.at_ {w : World} {base : Nat} {A : Option Addr} {n c : Nat} {l : List Mat} (h : Mats w base (.slice A n c) l) (k : Nat) (x : Mat) (hk : l[k]? = some x) :
  ∃ b off, A = some ⟨b, off, none⟩ ∧ b < w.heap.size ∧ w.cell? ⟨b, off + k * 3, none⟩ = some (.string x.1) ∧ w.cell? ⟨b, off + k * 3 + 1, none⟩ = some (.int .i64 x.2.1) ∧ w.cell? ⟨b, off + k * 3 + 2, none⟩ = some (.string x.2.2) := by
 obtain ⟨_, A', c', hv, _, _, h2⟩ := h
 cases hv
 have hlt : k < l.length := (List.getElem?_eq_some_iff.1 hk).1
 obtain ⟨b, off, rfl, hf, hx⟩ := h2 (by omega)
 refine ⟨b, off, rfl, hf.1, ?_, ?_, ?_⟩
 ·have := flat_get matCells 3 (fun _ => rfl) l k 0 x hk (by omega)
  exact hx _ _ (this.trans rfl)
 ·have := flat_get matCells 3 (fun _ => rfl) l k 1 x hk (by omega)
  have := hx _ _ (this.trans rfl)
  rwa [← Nat.add_assoc] at this
 ·have := flat_get matCells 3 (fun _ => rfl) l k 2 x hk (by omega)
  have := hx _ _ (this.trans rfl)
  rwa [← Nat.add_assoc] at this
end
section
open Go.RowKit
def vmatB (m : Mat) : Bool := nameB m.1 && (decide (0 ≤ m.2.1) && decide (m.2.1 ≤ 2)) && valueB m.2.2
end
section
open Go.RowKit FracM
/-- a node without its kids -/
structure Nd where
 kind : Int
 fn : Int
 win : Int
 off : Int
 k : Int
 num : Int
 den : Int
 name : ByteArray
 ms : List Mat
 bys : List ByteArray
inductive Tree where
 | node (d : Nd) (ks : List Tree)
def Tree.d : Tree → Nd
 | .node d _ => d
theorem Tree.ind {M : Tree → Prop} (h : ∀ d ks, (∀ t ∈ ks, M t) → M (.node d ks)) : ∀ t, M t
 | .node d ks => h d ks (fun t _ => Tree.ind h t)
mutual
def cnt : Tree → Int → Int → Int
 | .node _ ks, dp, l => cntL ks (dp + 1) (if 12 < dp then -1 else l - 1)
def cntL : List Tree → Int → Int → Int
 | [], _, l => l
 | t :: ts, dp, l => if l < 0 then l else cntL ts dp (cnt t dp l)
end
mutual
def dep : Tree → Nat
 | .node _ ks => depL ks + 1
def depL : List Tree → Nat
 | [] => 0
 | t :: ts => max (dep t) (depL ts)
end
mutual
def nds : Tree → Nat
 | .node _ ks => ndsL ks + 1
def ndsL : List Tree → Nat
 | [] => 0
 | t :: ts => nds t + ndsL ts
end
theorem cntL_neg (ts : List Tree) (dp l : Int) (h : l < 0) : cntL ts dp l = l := by
 cases ts with
 | nil => rw [cntL]
 | cons t ts => rw [cntL, if_pos h]
def CntOk (t : Tree) : Prop := ∀ (dp l : Int), 0 ≤ l → ((nds t : Int) ≤ l ∧ dp + dep t ≤ 13 → cnt t dp l = l - nds t) ∧ (¬ ((nds t : Int) ≤ l ∧ dp + dep t ≤ 13) → cnt t dp l < 0)
theorem cntL_ok (ts : List Tree) (H : ∀ t ∈ ts, CntOk t) : ∀ (dp l : Int), 0 ≤ l → dp ≤ 13 → ((ndsL ts : Int) ≤ l ∧ dp + depL ts ≤ 13 → cntL ts dp l = l - ndsL ts) ∧ (¬ ((ndsL ts : Int) ≤ l ∧ dp + depL ts ≤ 13) → cntL ts dp l < 0) := by
 induction ts with
 | nil => intro dp l h0 h1; rw [cntL, ndsL, depL]; constructor <;> intro h <;> omega
 | cons t ts ih =>
  intro dp l h0 h1
  rw [cntL, if_neg (by omega), ndsL, depL]
  obtain ⟨h2, h3⟩ := H t (by simp) dp l h0
  have ih' := ih (fun x hx => H x (by simp [hx])) dp
  by_cases hc : (nds t : Int) ≤ l ∧ dp + dep t ≤ 13
  ·rw [h2 hc]
   obtain ⟨i1, i2⟩ := ih' (l - nds t) (by omega) h1
   constructor
   ·intro h; rw [i1 (by omega)]; omega
   ·intro h; exact i2 (by omega)
  ·have := h3 hc
   rw [cntL_neg _ _ _ this]
   constructor
   ·intro h; omega
   ·intro h; exact this
theorem cnt_ok : ∀ t, CntOk t := Tree.ind fun d ks ih dp l h0 => by
 rw [cnt, nds, dep]
 by_cases h : 12 < dp
 ·rw [if_pos h, cntL_neg _ _ _ (by omega)]
  constructor <;> intro h <;> omega
 ·rw [if_neg h]
  by_cases hl : l = 0
  ·subst hl
   rw [cntL_neg _ _ _ (by omega)]
   constructor <;> intro h <;> omega
  ·obtain ⟨h1, h2⟩ := cntL_ok ks ih (dp + 1) (l - 1) (by omega) (by omega)
   constructor
   ·intro h; rw [h1 (by omega)]; omega
   ·intro h; exact h2 (by omega)
def fitB (t : Tree) : Bool := decide (nds t ≤ 200) && decide (dep t ≤ 12)
theorem fit_eq (t : Tree) : decide (0 ≤ cnt t 1 200) = fitB t := by
 obtain ⟨h1, h2⟩ := cnt_ok t 1 200 (by omega)
 unfold fitB
 by_cases h : (nds t : Int) ≤ 200 ∧ (1 : Int) + dep t ≤ 13
 ·have := h1 h
  rw [decide_eq_true (show 0 ≤ cnt t 1 200 by omega), decide_eq_true (show nds t ≤ 200 by omega), decide_eq_true (show dep t ≤ 12 by omega)]; rfl
 ·have := h2 h
  rw [decide_eq_false (show ¬ 0 ≤ cnt t 1 200 by omega)]
  by_cases h3 : nds t ≤ 200
  ·rw [decide_eq_false (show ¬ dep t ≤ 12 by omega)]; simp
  ·rw [decide_eq_false h3]; simp
/-- the words of the groups -/
def groupsL : List ByteArray := [⟨#[115, 117, 109]⟩, ⟨#[109, 105, 110]⟩, ⟨#[109, 97, 120]⟩, ⟨#[99, 111, 117, 110, 116]⟩, ⟨#[107, 116, 104]⟩]
def inGroups (s : ByteArray) : Bool := groupsL.any fun x => x.toList == s.toList
def noSelB (d : Nd) : Bool := d.win == 0 && d.off == 0 && d.name.toList.isEmpty && d.ms.isEmpty
def noNumB (d : Nd) : Bool := d.num == 0 && d.den == 0
def shapedB (d : Nd) (n : Nat) : Bool :=
 if d.kind = 0 then d.fn == 0 && n == 0 && noSelB d && d.k == 0 && d.bys.isEmpty && validB d.num d.den
 else if d.kind = 1 then decide (0 ≤ d.fn) && decide (d.fn ≤ 7) && n == 0 && noNumB d && d.bys.isEmpty
 else if d.kind = 2 then decide (0 ≤ d.fn) && decide (d.fn ≤ 4) && n == 1 && noNumB d && noSelB d
 else if d.kind = 3 then decide (0 ≤ d.fn) && decide (d.fn ≤ 3) && n == 2 && noNumB d && noSelB d && d.k == 0 && d.bys.isEmpty
 else false
def rangedB (d : Nd) : Bool :=
 if d.kind = 1 then
  decide (0 ≤ d.off) && decide (d.off ≤ 4096) && (if d.fn = 0 then d.win == 0 && d.k == 0 else decide (1 ≤ d.win) && decide (d.win ≤ 4096) && (if d.fn = 7 then decide (1 ≤ d.k) && decide (d.k ≤ d.win) else d.k == 0))
 else if d.kind = 2 then (if d.fn = 4 then decide (1 ≤ d.k) && decide (d.k ≤ 4096) else d.k == 0)
 else true
/-- the order of strings, as the program compares them -/
def leS (a b : ByteArray) : Bool := Op.bytesLess a.toList b.toList || (a.toList == b.toList)
/-- the names of a by clause, behind a name -/
def bysFrom (prev : Option ByteArray) : List ByteArray → Bool
 | [] => true
 | x :: xs => nameB x && !(match prev with | none => false | some p => leS x p) && bysFrom (some x) xs
def bysB (l : List ByteArray) : Bool := bysFrom none l
def namedB (d : Nd) : Bool := (!(d.kind == 1) || (nameB d.name && !inGroups d.name)) && d.ms.all vmatB && bysB d.bys
def chk1 (d : Nd) (n : Nat) : Int :=
 if shapedB d n = false then 1 else if namedB d = false then 8 else if 8 < d.ms.length ∨ 8 < d.bys.length then 4 else if rangedB d = false then 5 else 0
mutual
def chk : Tree → Int
 | .node d ks => if chk1 d ks.length = 0 then chkL ks else chk1 d ks.length
def chkL : List Tree → Int
 | [] => 0
 | t :: ts => if chk t = 0 then chkL ts else chk t
end
theorem chkL_ok {ts : List Tree} (h : chkL ts = 0) : ∀ t ∈ ts, chk t = 0 := by
 induction ts with
 | nil => intro t ht; cases ht
 | cons x ts ih =>
  intro t ht
  rw [chkL] at h
  by_cases hx : chk x = 0
  ·rw [if_pos hx] at h
   rcases List.mem_cons.1 ht with rfl | ht
   ·exact hx
   ·exact ih h t ht
  ·rw [if_neg hx] at h; exact absurd h hx
theorem chk_ok {d : Nd} {ks : List Tree} (h : chk (.node d ks) = 0) : chk1 d ks.length = 0 ∧ ∀ t ∈ ks, chk t = 0 := by
 rw [chk] at h
 by_cases hx : chk1 d ks.length = 0
 ·rw [if_pos hx] at h; exact ⟨hx, chkL_ok h⟩
 ·rw [if_neg hx] at h; exact absurd h hx
theorem shape_cases {d : Nd} {n : Nat} (h : shapedB d n = true) : (d.kind = 0 ∧ n = 0) ∨ (d.kind = 1 ∧ n = 0 ∧ 0 ≤ d.fn ∧ d.fn ≤ 7) ∨ (d.kind = 2 ∧ n = 1 ∧ 0 ≤ d.fn ∧ d.fn ≤ 4) ∨ (d.kind = 3 ∧ n = 2 ∧ 0 ≤ d.fn ∧ d.fn ≤ 3) := by
 unfold shapedB at h
 by_cases h0 : d.kind = 0
 ·rw [if_pos h0] at h; simp at h; exact .inl ⟨h0, by omega⟩
 rw [if_neg h0] at h
 by_cases h1 : d.kind = 1
 ·rw [if_pos h1] at h; simp at h; exact .inr (.inl ⟨h1, by omega, by omega, by omega⟩)
 rw [if_neg h1] at h
 by_cases h2 : d.kind = 2
 ·rw [if_pos h2] at h; simp at h; exact .inr (.inr (.inl ⟨h2, by omega, by omega, by omega⟩))
 rw [if_neg h2] at h
 by_cases h3 : d.kind = 3
 ·rw [if_pos h3] at h; simp at h; exact .inr (.inr (.inr ⟨h3, by omega, by omega, by omega⟩))
 rw [if_neg h3] at h; cases h
def validE (t : Tree) : Int := if fitB t = false then 4 else chk t
abbrev U3 := Int × Int × Int
def u0 : U3 := (0, 0, 0)
end
section
open Go.RowKit
set_option maxHeartbeats 1000000 in
theorem vmat_any (nm vl : ByteArray) (kd : Int) (w : World) (hs1 : nm.size ≤ maxLen) (hs2 : vl.size ≤ maxLen) :
  Calls Tryd.prog 114 #[.agg #[.string nm, .int .i64 kd, .string vl]] w fun e w' => e = .returned (.bool (vmatB (nm, kd, vl))) ∧ Below w.heap.size w w' := by
 by_cases hk : 0 ≤ kd ∧ kd ≤ 2
 ·have hk3 : kd = 0 ∨ kd = 1 ∨ kd = 2 := by omega
  clear hk
  by_cases hn : nameB nm = true
  ·rcases hk3 with rfl | rfl | rfl
   ·have E : Hid (vmatB (nm, 0, vl) = valueB vl) := by simp [vmatB, hn, Hid]
    go_enter Tryd.func114, Tryd.ntmps114
    go_wp2_with (first | (go_at_call 112; refine (name_any _ _ hs1).mono ?_; rintro e w1 ⟨rfl, hb1⟩; obtain ⟨hc1, hf1⟩ := bcell hb1; have hz1 := hb1.size; have HB : Hid (Below w.heap.size w w1) := (bel1 _ _).trans (hb1.mono (by simp)); clear hb1) | (go_at_call 129; refine (value_any _ _ hs2).mono ?_; rintro e w2 ⟨rfl, hb2⟩; have HB2 : Hid (Below w.heap.size w w2) := HB.out.trans (hb2.mono HB.out.size); clear hb2))
    go_ret
    exact ⟨ret_bool (by rw [E.out]), HB2.out⟩
   ·have E : Hid (vmatB (nm, 1, vl) = valueB vl) := by simp [vmatB, hn, Hid]
    go_enter Tryd.func114, Tryd.ntmps114
    go_wp2_with (first | (go_at_call 112; refine (name_any _ _ hs1).mono ?_; rintro e w1 ⟨rfl, hb1⟩; obtain ⟨hc1, hf1⟩ := bcell hb1; have hz1 := hb1.size; have HB : Hid (Below w.heap.size w w1) := (bel1 _ _).trans (hb1.mono (by simp)); clear hb1) | (go_at_call 129; refine (value_any _ _ hs2).mono ?_; rintro e w2 ⟨rfl, hb2⟩; have HB2 : Hid (Below w.heap.size w w2) := HB.out.trans (hb2.mono HB.out.size); clear hb2))
    go_ret
    exact ⟨ret_bool (by rw [E.out]), HB2.out⟩
   ·have E : Hid (vmatB (nm, 2, vl) = valueB vl) := by simp [vmatB, hn, Hid]
    go_enter Tryd.func114, Tryd.ntmps114
    go_wp2_with (first | (go_at_call 112; refine (name_any _ _ hs1).mono ?_; rintro e w1 ⟨rfl, hb1⟩; obtain ⟨hc1, hf1⟩ := bcell hb1; have hz1 := hb1.size; have HB : Hid (Below w.heap.size w w1) := (bel1 _ _).trans (hb1.mono (by simp)); clear hb1) | (go_at_call 129; refine (value_any _ _ hs2).mono ?_; rintro e w2 ⟨rfl, hb2⟩; have HB2 : Hid (Below w.heap.size w w2) := HB.out.trans (hb2.mono HB.out.size); clear hb2))
    go_ret
    exact ⟨ret_bool (by rw [E.out]), HB2.out⟩
  ·have hn' : nameB nm = false := by simpa using hn
   clear hn
   rcases hk3 with rfl | rfl | rfl
   ·have E : Hid (vmatB (nm, 0, vl) = false) := by simp [vmatB, hn', Hid]
    go_enter Tryd.func114, Tryd.ntmps114
    go_wp2_with (first | (go_at_call 112; refine (name_any _ _ hs1).mono ?_; rintro e w1 ⟨rfl, hb1⟩; obtain ⟨hc1, hf1⟩ := bcell hb1; have hz1 := hb1.size; have HB : Hid (Below w.heap.size w w1) := (bel1 _ _).trans (hb1.mono (by simp)); clear hb1) | (go_at_call 129; refine (value_any _ _ hs2).mono ?_; rintro e w2 ⟨rfl, hb2⟩; have HB2 : Hid (Below w.heap.size w w2) := HB.out.trans (hb2.mono HB.out.size); clear hb2))
    go_ret
    exact ⟨ret_bool (by rw [E.out]), HB.out⟩
   ·have E : Hid (vmatB (nm, 1, vl) = false) := by simp [vmatB, hn', Hid]
    go_enter Tryd.func114, Tryd.ntmps114
    go_wp2_with (first | (go_at_call 112; refine (name_any _ _ hs1).mono ?_; rintro e w1 ⟨rfl, hb1⟩; obtain ⟨hc1, hf1⟩ := bcell hb1; have hz1 := hb1.size; have HB : Hid (Below w.heap.size w w1) := (bel1 _ _).trans (hb1.mono (by simp)); clear hb1) | (go_at_call 129; refine (value_any _ _ hs2).mono ?_; rintro e w2 ⟨rfl, hb2⟩; have HB2 : Hid (Below w.heap.size w w2) := HB.out.trans (hb2.mono HB.out.size); clear hb2))
    go_ret
    exact ⟨ret_bool (by rw [E.out]), HB.out⟩
   ·have E : Hid (vmatB (nm, 2, vl) = false) := by simp [vmatB, hn', Hid]
    go_enter Tryd.func114, Tryd.ntmps114
    go_wp2_with (first | (go_at_call 112; refine (name_any _ _ hs1).mono ?_; rintro e w1 ⟨rfl, hb1⟩; obtain ⟨hc1, hf1⟩ := bcell hb1; have hz1 := hb1.size; have HB : Hid (Below w.heap.size w w1) := (bel1 _ _).trans (hb1.mono (by simp)); clear hb1) | (go_at_call 129; refine (value_any _ _ hs2).mono ?_; rintro e w2 ⟨rfl, hb2⟩; have HB2 : Hid (Below w.heap.size w w2) := HB.out.trans (hb2.mono HB.out.size); clear hb2))
    go_ret
    exact ⟨ret_bool (by rw [E.out]), HB.out⟩
 ·have E : Hid (vmatB (nm, kd, vl) = false) := by simp [vmatB, Hid]; omega
  have h0' : (kd == 0) = false := by simp; omega
  have h1' : (kd == 1) = false := by simp; omega
  have h2' : (kd == 2) = false := by simp; omega
  clear hk
  go_enter Tryd.func114, Tryd.ntmps114
  go_wp2_with (first | (go_at_call 112; refine (name_any _ _ hs1).mono ?_; rintro e w1 ⟨rfl, hb1⟩; obtain ⟨hc1, hf1⟩ := bcell hb1; have hz1 := hb1.size; have HB : Hid (Below w.heap.size w w1) := (bel1 _ _).trans (hb1.mono (by simp)); clear hb1) | (go_at_call 129; refine (value_any _ _ hs2).mono ?_; rintro e w2 ⟨rfl, hb2⟩; have HB2 : Hid (Below w.heap.size w w2) := HB.out.trans (hb2.mono HB.out.size); clear hb2))
  go_ret
  exact ⟨ret_bool (by rw [E.out]), bel1 _ _⟩
set_option maxHeartbeats 1000000 in
theorem rvmat_any (nm vl : ByteArray) (kd : Int) (w : World) (hs1 : nm.size ≤ maxLen) (hs2 : vl.size ≤ maxLen) :
  Calls Tryd.prog 109 #[.agg #[.string nm, .int .i64 kd, .string vl]] w fun e w' => e = .returned (.bool (vmatB (nm, kd, vl))) ∧ Below w.heap.size w w' := by
 by_cases hn : nameB nm = true
 ·by_cases hk : 0 ≤ kd
  ·by_cases hk2 : kd ≤ 2
   ·have E : Hid (vmatB (nm, kd, vl) = valueB vl) := by simp [vmatB, hn, hk, hk2, Hid]
    go_enter Tryd.func109, Tryd.ntmps109
    go_wp2_with (first | (go_at_call 106; refine (rname_any _ _ hs1).mono ?_; rintro e w1 ⟨rfl, rfl⟩) | (go_at_call 126; refine (rvalue_any _ _ hs2).mono ?_; rintro e w2 ⟨rfl, rfl⟩))
    go_ret
    exact ⟨ret_bool (by rw [E.out]), bel1 _ _⟩
   ·have E : Hid (vmatB (nm, kd, vl) = false) := by simp [vmatB, hk2, Hid]
    go_enter Tryd.func109, Tryd.ntmps109
    go_wp2_with (first | (go_at_call 106; refine (rname_any _ _ hs1).mono ?_; rintro e w1 ⟨rfl, rfl⟩) | (go_at_call 126; refine (rvalue_any _ _ hs2).mono ?_; rintro e w2 ⟨rfl, rfl⟩))
    go_ret
    exact ⟨ret_bool (by rw [E.out]), bel1 _ _⟩
  ·have E : Hid (vmatB (nm, kd, vl) = false) := by simp [vmatB, hk, Hid]
   go_enter Tryd.func109, Tryd.ntmps109
   go_wp2_with (first | (go_at_call 106; refine (rname_any _ _ hs1).mono ?_; rintro e w1 ⟨rfl, rfl⟩) | (go_at_call 126; refine (rvalue_any _ _ hs2).mono ?_; rintro e w2 ⟨rfl, rfl⟩))
   go_ret
   exact ⟨ret_bool (by rw [E.out]), bel1 _ _⟩
 ·have hn' : nameB nm = false := by simpa using hn
  clear hn
  have E : Hid (vmatB (nm, kd, vl) = false) := by simp [vmatB, hn', Hid]
  go_enter Tryd.func109, Tryd.ntmps109
  go_wp2_with (first | (go_at_call 106; refine (rname_any _ _ hs1).mono ?_; rintro e w1 ⟨rfl, rfl⟩) | (go_at_call 126; refine (rvalue_any _ _ hs2).mono ?_; rintro e w2 ⟨rfl, rfl⟩))
  go_ret
  exact ⟨ret_bool (by rw [E.out]), bel1 _ _⟩
end
section
open Go.RowKit
def RetB (v : Value) (w : World) (e : Ending) (w' : World) : Prop := e = .returned v ∧ Below w.heap.size w w'
/-- what the program's own variables hold -/
structure WordsW (w : World) : Prop where
 groups : ∀ k : Nat, k < 5 → ∃ s : ByteArray, w.cell? ⟨1, k, none⟩ = some (.string s) ∧ (s.toList == [114, 101, 113]) = false
 low : 1 < w.heap.size ∧ 1 < w.heap.size
end
section
open Go.RowKit
theorem WordsW.below {w w' : World} (h : WordsW w) (hb : Below w.heap.size w w') : WordsW w' := by
 obtain ⟨h1, h5, h6⟩ := h
 refine ⟨fun k hk => ?_, Nat.lt_of_lt_of_le h5 hb.size, Nat.lt_of_lt_of_le h6 hb.size⟩
 obtain ⟨s, hs, hn⟩ := h1 k hk
 exact ⟨s, (hb.cell h5).trans hs, hn⟩
end
end Go.Proofs.YtipafbppaaflcaaDoor
