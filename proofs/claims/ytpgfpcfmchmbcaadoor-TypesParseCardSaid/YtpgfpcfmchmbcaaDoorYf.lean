/- Of on the example without declarations. -/
import Derived.Test.YtpgfpcfmchmbcaaDoorYe
set_option linter.unusedVariables false
set_option linter.unusedSimpArgs false
namespace Go.Proofs.YtpgfpcfmchmbcaaDoor
open Go.RowKit

/-- of the old blocks only g may have turned -/
structure Only (g : Nat) (w w' : World) : Prop where
  os : w'.os = w.os
  tape : w'.tape = w.tape
  output : w'.output = w.output
  size : w.heap.size ≤ w'.heap.size
  block : ∀ k, k < w.heap.size → k ≠ g → w'.heap[k]? = w.heap[k]?
theorem Only.of_below {g : Nat} {w w' : World} (h : Below w.heap.size w w') : Only g w w' := ⟨h.os, h.tape, h.output, h.size, fun k hk _ => h.block k hk⟩
theorem Only.trans {g : Nat} {a b c : World} (h : Only g a b) (k : Only g b c) : Only g a c :=
  ⟨k.os.trans h.os, k.tape.trans h.tape, k.output.trans h.output, Nat.le_trans h.size k.size, fun i hi hn => by rw [k.block i (Nat.lt_of_lt_of_le hi h.size) hn, h.block i hi hn]⟩
theorem Only.below {g B : Nat} {w w' : World} (h : Only g w w') (hg : B ≤ g) (hB : B ≤ w.heap.size) : Below B w w' := ⟨h.os, h.tape, h.output, h.size, fun k hk => h.block k (by omega) (by omega)⟩
theorem Only.blk {g k : Nat} {w w' : World} {t : TypeId} {cs : Array Value} (h : Only g w w') (hb : Blk w k t cs) (hn : k ≠ g) : Blk w' k t cs := (h.block k hb.lt hn).trans hb
theorem Only.setCell {g : Nat} {w : World} (o : Nat) (u : Value) : Only g w (w.setCell ⟨g, o, none⟩ u) := by
  refine ⟨rfl, rfl, rfl, by simp [World.setCell], fun k hk hn => ?_⟩
  exact Below.heap_setCell w ⟨g, o, none⟩ u k hn
abbrev zeroU : Value := .agg #[.int .i64 0, .int .i64 0, .int .i64 0]
/-- the answer v, and the typing's block g holds these cells behind the call -/
def RetT (g : Nat) (v : Value) (cs : Array Value) (w : World) (e : Ending) (w' : World) : Prop := e = .returned v ∧ Blk w' g 68 cs ∧ Only g w w'
set_option maxHeartbeats 1000000 in
theorem fail_any (g : Nat) (d : Value) (c : Int) (w : World) (hg : Blk w g 68 #[d, .int .i64 0]) : Calls Tryd.prog 40 #[.pointer (some ⟨g, 0, none⟩), .int .i64 c] w (RetT g zeroU #[d, .int .i64 c] w) := by
  have HG := Box.mk hg
  obtain ⟨c0, c1⟩ := hg.c2
  have cf := hg.frozen
  have gz := hg.lt
  have gn : ¬ g = w.heap.size := by omega
  have gm : ¬ w.heap.size = g := by omega
  clear hg
  go_enter Tryd.func40, Tryd.ntmps40
  go_wp2_with fail
  exact bodyPost_ret (v := zeroU) (by simp [results, Tryd.results40, go_sem]) rfl ⟨rfl, Blk.alloc (by simpa using HG.out.set 1 (.int .i64 c)) _, (Only.setCell 1 _).trans (Only.of_below (bel1 _ _))⟩
/-- the frame of a method of typing: the query's block, the result's block *-/
structure T2 (g : Nat) (w W : World) (cs : Array Value) : Prop where
  only : Only g w W
  T : Blk W g 68 cs
  Q : Blk W w.heap.size 48 reqC
  R : Blk W (w.heap.size + 1) 23 #[.int .i64 0, .int .i64 0, .int .i64 0]
theorem T2.next {g : Nat} {w W W' : World} {cs cs' : Array Value} (h : T2 g w W cs) (hg : g < w.heap.size) (ho : Only g W W') (hT : Blk W' g 68 cs') : T2 g w W' cs' :=
  ⟨h.only.trans ho, hT, ho.blk h.Q (by omega), ho.blk h.R (by omega)⟩
theorem T2.below {g : Nat} {w W W' : World} {cs : Array Value} (h : T2 g w W cs) (hb : Below W.heap.size W W') : T2 g w W' cs :=
  ⟨h.only.trans (Only.of_below hb), h.T.below hb, h.Q.below hb, h.R.below hb⟩
theorem T2.start {g : Nat} {w : World} {cs : Array Value} (h : Blk w g 68 cs) : T2 g w ((w.alloc (.cells reqC 48)).alloc (.cells #[.int .i64 0, .int .i64 0, .int .i64 0] 23)) cs :=
  ⟨Only.of_below (bel2 _ _ _), (h.alloc _).alloc _, (Blk.new _ _ _).alloc _, Blk.newAt _ _ (by simp)⟩
theorem Only.newCell {g : Nat} {w W : World} (h : Only g w W) {p : Addr} (hp : w.heap.size ≤ p.block) (u : Value) : Only g w (W.setCell p u) :=
  ⟨h.os, h.tape, h.output, by have := h.size; simpa [World.setCell] using this, fun k hk hn => (Below.heap_setCell W p u k (by omega)).trans (h.block k hk hn)⟩
theorem only_R {g : Nat} {w W : World} {cs : Array Value} (h : T2 g w W cs) (u0 u1 u2 : Value) : Only g w (((W.setCell ⟨w.heap.size + 1, 0, none⟩ u0).setCell ⟨w.heap.size + 1, 1, none⟩ u1).setCell ⟨w.heap.size + 1, 2, none⟩ u2) :=
  ((h.only.newCell (p := ⟨w.heap.size + 1, 0, none⟩) (by simp) u0).newCell (p := ⟨w.heap.size + 1, 1, none⟩) (by simp) u1).newCell (p := ⟨w.heap.size + 1, 2, none⟩) (by simp) u2
theorem blk_R {g : Nat} {w W : World} {cs : Array Value} (h : T2 g w W cs) (hg : g < w.heap.size) (u0 u1 u2 : Value) : Blk (((W.setCell ⟨w.heap.size + 1, 0, none⟩ u0).setCell ⟨w.heap.size + 1, 1, none⟩ u1).setCell ⟨w.heap.size + 1, 2, none⟩ u2) g 68 cs :=
  ((h.T.far (p := ⟨w.heap.size + 1, 0, none⟩) (by simp only; omega) _).far (p := ⟨w.heap.size + 1, 1, none⟩) (by simp only; omega) _).far (p := ⟨w.heap.size + 1, 2, none⟩) (by simp only; omega) _
set_option maxHeartbeats 1000000 in
set_option maxRecDepth 100000 in
theorem selected_nil (g : Nat) (w : World) (hg : Blk w g 68 #[.slice none 0 0, .int .i64 0]) : Calls Tryd.prog 38 #[.pointer (some ⟨g, 0, none⟩), reqV] w (RetT g zeroU #[.slice none 0 0, .int .i64 8] w) := by
  have gz := hg.lt
  have HB := Lib.hid (T2.start hg)
  clear hg
  go_enter Tryd.func38, Tryd.ntmps38
  go_upto_region 2 with (fail)
  generalize ((w.alloc (.cells reqC 48)).alloc (.cells #[.int .i64 0, .int .i64 0, .int .i64 0] 23)) = W at HB ⊢
  obtain ⟨t0, t1⟩ := HB.out.T.c2
  go_wp2_with fail
  go_loop [5, 19] (fun u v => u = .slice none 0 0 ∧ v = .int .i64 0) (fun _ _ => 0)
  case atStart => exact ⟨rfl, rfl⟩
  case round =>
    obtain ⟨rfl, rfl⟩ := hrel
    go_wp2_with fail
    refine (fail_any g _ _ _ HB.out.T).mono ?_
    rintro e w5 ⟨rfl, hT, ho⟩
    clear t0 t1
    have HB2 := Lib.hid (HB.out.next gz ho hT); clear HB hT ho
    have HB := Lib.hid HB2.out; clear HB2
    obtain ⟨r0, r1, r2⟩ := HB.out.R.c3
    have rf := HB.out.R.frozen
    go_wp2_with fail
    exact bodyPost_ret (v := zeroU) (by simp [results, Tryd.results38, go_sem, r0, r1, r2, rf]) rfl ⟨rfl, blk_R HB.out gz _ _ _, only_R HB.out _ _ _⟩
end Go.Proofs.YtpgfpcfmchmbcaaDoor
