/- Contracts, packed: Kk. -/
import Derived.Test.YtpgdijbfkahepaaGreatDoorPd22
import Derived.Test.YtpgdijbfkahepaaGreatDoorPd31
set_option linter.unusedVariables false
set_option linter.unusedSimpArgs false
namespace Go.Proofs.YtpgdijbfkahepaaGreatDoor
section
open Go.RowKit Go.Shelf FracM
attribute [local go_sem] Oper.semAt_some
theorem range_wr2 {α : Type} {P : Program} {F : Fence} {n : Nat} {g : Operand} {ps : Array Tmp} {assign body : Code} {Q : Exit → Act → World → Prop} {a : Act} {w : World} {q : Nat}
  (hro : F.round = none) (h1 : 1 ≤ n) {gf : Nat} {fs lb : Array Value} (hg : a.eval g = .func (.func gf) fs lb) (hFg : F.fn gf) (eg : ∀ args w, (callFunc gf args).run P w = .ok (.enter gf args) w)
  (encs : α → Array Value) (hps : ∀ x, (encs x).size = ps.size) (I : List α → World → Prop) (S : List α → World → Prop) (Ok : List α → α → Prop)
  (hS : OwnFrom w.heap.size S) (hIT : ∀ s A B, I s A → Wq w.heap.size q A B → I s B) (h0 : I [] w) (ob : α → Obj) (hob : ∀ x, (ob x).isCells = true) (a₁ : α → Nat → Act)
  (hseq : ∀ (l : Nat) (J : List α → World → Prop) (W : World), Below w.heap.size w W → (∀ s A B, J s A → Wr q A B → J s B) →
   (∀ pre x W0 W1, Ok pre x → J pre W0 → Wr q W0 W1 → YieldAt F (n - 1 - 1) P l (encs x) W1 fun e W' => e = .returned (.bool true) ∧ J (pre ++ [x]) W' ∧ W'.heap[q]? = W1.heap[q]? ∧ ∀ k, W0.heap.size ≤ k → k < W1.heap.size → W'.heap[k]? = W1.heap[k]?) → J [] W →
   CallsIn F (n - 1) P gf (fs ++ #[.func (.yield l) #[] #[]] ++ lb) W fun e W' => (∃ v, e = .returned v) ∧ ∃ xs, S xs W' ∧ J xs W')
  (hq : q < w.heap.size)
  (hassign : ∀ (l : Nat) (x : α) (W : World) (K : Act → World → Prop), K (a₁ x W.heap.size) (W.alloc (ob x)) →
   assign.wpIn (F.inRound l) (n - 1 - 1) P (Exit.then K (fun _ _ _ => False)) { tmps := (ps.zip (encs x)).foldl (fun t (p, v) => t.setIfInBounds p v) a.tmps, defers := [] } W)
  (hbody : ∀ (l : Nat) (pre : List α) (x : α) (W0 W : World) (tb : Nat), Ok pre x → I pre W0 → w.heap.size ≤ W0.heap.size → Wq w.heap.size q W0 W → W0.heap.size ≤ tb → W.heap[tb]? = some (ob x) →
   body.wpIn (F.inRound l) (n - 1 - 1) P (fun e _ W' => e = .normal ∧ KeepsFrom w.heap.size W W' ∧ W'.heap[q]? = W.heap[q]? ∧ I (pre ++ [x]) W' ∧ ∀ k, W0.heap.size ≤ k → k < W.heap.size → W'.heap[k]? = W.heap[k]?) (a₁ x tb) W)
  (hdone : ∀ (D : Nat) (xs : List α) (W : World), w.heap.size ≤ D → S xs W → I xs W → W.heap[D]? = some (.deferred (some [])) → Q .normal { a with defers := { target := .collected D, args := #[] } :: a.defers } W) :
  (Code.rangeFunc g ps assign body).wpIn F n P Q a w := by
 refine wpIn_rangeFunc ?_
 intro fn hfn
 rw [hro]
 obtain ⟨rec, hrec⟩ : ∃ rec : LoopState → Option Code → Loop, rec = fun st pe => { state := st, pending := pe, fn, tmps := a.tmps, params := ps, assign, body, defers := w.heap.size } := ⟨_, rfl⟩
 obtain ⟨W1, hW1⟩ : ∃ W1, (w.alloc (.deferred (some []))).alloc (.loop (rec .ready none)) = W1 := ⟨_, rfl⟩
 have hL1 : W1.heap[w.heap.size + 1]? = some (.loop (rec .ready none)) := by
  rw [← hW1]; have := World.alloc_heap_new (w.alloc (.deferred (some []))) (.loop (rec .ready none)); rwa [World.size_alloc] at this
 have hK1 : W1.heap[w.heap.size]? = some (.deferred (some [])) := by
  rw [← hW1]; exact (Below.heap_alloc _ _ _ (by simp)).trans (World.alloc_heap_new w _)
 have hI1 : I [] W1 := by rw [← hW1]; exact hIT _ _ _ h0 ((Wq.alloc _ _ _ _ (Nat.le_refl _)).trans (Wq.alloc _ _ _ _ (by simp)))
 have hb1 : Below w.heap.size w W1 := by rw [← hW1]; exact ((Below.refl _ w).alloc (Nat.le_refl _) _).alloc (by simp) _
 refine ⟨w.heap.size + 1, [{ target := .collected w.heap.size, args := #[] }], W1, { target := .fn (.func gf) lb, args := fs ++ #[.func (.yield (w.heap.size + 1)) #[] #[]] }, W1, gf,
  fs ++ #[.func (.yield (w.heap.size + 1)) #[] #[]] ++ lb, W1, ?_, ?_, ?_, ?_, fun _ => h1, ?_⟩
 ·rw [← hW1, hrec]; exact run_enterLoop_outer _ _ _ _ _
 ·simp only [resolve, hg]
  simp [go_sem]
 ·intro f' hf'; simp [Target.leads] at hf'; subst hf'; exact hFg
 ·simp [invoke, go_sem, eg]
 ·refine (hseq (w.heap.size + 1)
   (fun pre W => I pre W ∧ W.heap[w.heap.size + 1]? = some (.loop (rec .ready none)) ∧ W.heap[w.heap.size]? = some (.deferred (some []))) W1 hb1
   (fun s A B hs ht => ⟨hIT s A B hs.1 (ht.wq (by have := (Array.getElem?_eq_some_iff.1 hs.2.2).1; omega)), ht.ko.same _ _ hs.2.1 rfl, ht.ko.same _ _ hs.2.2 rfl⟩) ?_ ⟨hI1, hL1, hK1⟩).mono ?_
  ·rintro pre x W0 Wp hok ⟨hi, hl0, hk0⟩ hwp
   have hwr := hwp.alloc (ob x)
   have hlp := hwp.ko.same _ _ hl0 rfl
   have htb : (Wp.alloc (ob x)).heap[Wp.heap.size]? = some (ob x) := World.alloc_heap_new _ _
   have hsp : ∀ k, k < Wp.heap.size → (Wp.alloc (ob x)).heap[k]? = Wp.heap[k]? := fun k hk => Below.heap_alloc Wp (ob x) k hk
   have hzp : (Wp.alloc (ob x)).heap.size = Wp.heap.size + 1 := by simp
   have hqp : q < Wp.heap.size := by have := (Array.getElem?_eq_some_iff.1 hlp).1; omega
   have hltp : w.heap.size + 1 < Wp.heap.size := (Array.getElem?_eq_some_iff.1 hlp).1
   have hw0p := hwp.ko.size
   have hy := run_yield (P := P) (args := encs x) hlp (by rw [hrec]; exact hps x)
   rw [hrec] at hy
   refine ⟨fn, _, assign, body, hy, roundIn_of_wpIn hfn (hassign _ x Wp _ ?_)⟩
   generalize Wp.alloc (ob x) = W at *
   have hl := hwr.ko.same _ _ hl0 rfl
   have hk := hwr.ko.same _ _ hk0 rfl
   have hlt0 : w.heap.size + 1 < W0.heap.size := (Array.getElem?_eq_some_iff.1 hl0).1
   have hlt : w.heap.size + 1 < W.heap.size := (Array.getElem?_eq_some_iff.1 hl).1
   refine ⟨_, run_beginRound hl (by rw [hrec]), ?_⟩
   have hl2 : (W.putObj (w.heap.size + 1) (.loop { rec .ready none with state := .busy })).heap[w.heap.size + 1]? = some (.loop { rec .ready none with state := .busy }) := World.putObj_heap_same hlt
   have hk2 : (W.putObj (w.heap.size + 1) (.loop { rec .ready none with state := .busy })).heap[w.heap.size]? = some (.deferred (some [])) := (World.putObj_heap_other (by omega)).trans hk
   have hq2 : (W.putObj (w.heap.size + 1) (.loop { rec .ready none with state := .busy })).heap[q]? = W.heap[q]? := World.putObj_heap_other (by omega)
   have hz2 : (W.putObj (w.heap.size + 1) (.loop { rec .ready none with state := .busy })).heap.size = W.heap.size := by simp [World.putObj]
   have hs2 : ∀ k, W0.heap.size ≤ k → (W.putObj (w.heap.size + 1) (.loop { rec .ready none with state := .busy })).heap[k]? = W.heap[k]? := fun k hk => World.putObj_heap_other (by omega)
   refine wpIn_mono (hbody _ pre x W0 _ Wp.heap.size hok hi (by omega) ((hwr.wq (by omega)).trans (Wq.put _ _ _ _ _ _ (by omega) hl rfl)) hw0p ((World.putObj_heap_other (by omega)).trans htb)) ?_
   rintro e a3 W3 ⟨rfl, hk3, hkp3, hi3, hsame3⟩
   have hl3 := hk3.same _ _ (by omega) hl2 rfl
   have hr := run_endRound (P := P) none hl3
   rw [hrec] at hr
   have hl4 : (W3.putObj (w.heap.size + 1) (.loop (rec .ready none))).heap[w.heap.size + 1]? = some (.loop (rec .ready none)) := World.putObj_heap_same (Array.getElem?_eq_some_iff.1 hl3).1
   have hk4 : (W3.putObj (w.heap.size + 1) (.loop (rec .ready none))).heap[w.heap.size]? = some (.deferred (some [])) := (World.putObj_heap_other (by omega)).trans (hk3.same _ _ (Nat.le_refl _) hk2 rfl)
   have hq4 : (W3.putObj (w.heap.size + 1) (.loop (rec .ready none))).heap[q]? = W3.heap[q]? := World.putObj_heap_other (by omega)
   have hJ4 := hIT _ _ _ hi3 (Wq.put w.heap.size q W3 (w.heap.size + 1) _ (.loop (rec .ready none)) (by omega) hl3 rfl)
   have hs4 : ∀ k, W0.heap.size ≤ k → (W3.putObj (w.heap.size + 1) (.loop (rec .ready none))).heap[k]? = W3.heap[k]? := fun k hk => World.putObj_heap_other (by omega)
   rw [hrec] at hl4 hk4 hq4 hJ4 hs4 hsame3 hz2 hs2 ⊢
   exact ⟨_, _, hr, rfl, ⟨hJ4, hl4, hk4⟩, (hq4.trans (hkp3.trans hq2)).trans (hsp q hqp), fun k h1 h2 => ((hs4 k h1).trans ((hsame3 k h1 (by rw [hz2]; omega)).trans (hs2 k h1))).trans (hsp k h2)⟩
  ·rintro e W2 ⟨⟨v, rfl⟩, xs, hSx, hi, hl, hk⟩
   exact ⟨none, _, by have := run_endLoop (P := P) hl (by rw [hrec]; simp); rw [hrec] at this; exact this, hdone _ xs _ (Nat.le_refl _) (hS.putObj _ hSx (by omega) hl rfl) (hIT _ _ _ hi (Wq.put _ _ _ _ _ _ (by omega) hl rfl)) ((World.putObj_heap_other (by omega)).trans hk)⟩
/-- the tokens so far, in the variable tv -/
structure TkS (w0 W : World) (tv : Nat) (pre : List Tok) (v : Value) : Prop where
 below : Below w0.heap.size w0 W
 t : Blk W tv 78 #[v]
 row : W.ownsRow (w0.heap.size + 2) 103 4 v pre.length (pre.flatMap tokL)
theorem own_cells {w w' : World} {B t size n : Nat} {v : Value} {xs : List Value} (h : w.ownsRow B t size v n xs) (hb : ∀ k o, B ≤ k → w.heap[k]? = some o → o.isCells = true → w'.heap[k]? = some o) : w'.ownsRow B t size v n xs := by
 obtain ⟨h1, h2⟩ := h
 refine ⟨h1, ?_⟩
 rcases h2 with ⟨rfl, rfl⟩ | ⟨g, cap, cur, rfl, hg, hh, hn, hc, hs, hx⟩
 ·exact .inl ⟨rfl, rfl⟩
 ·exact .inr ⟨g, cap, cur, rfl, hg, hb g _ hg hh rfl, hn, hc, hs, hx⟩
theorem TkS.wq {w0 A B : World} {n q tv : Nat} {pre : List Tok} {v : Value} (h : TkS w0 A tv pre v) (k : Wq n q A B) (hn : w0.heap.size ≤ n) (hq : q = w0.heap.size) (ht : tv ≠ q) : TkS w0 B tv pre v := by
 subst hq
 refine ⟨⟨k.os.trans h.below.os, k.tape.trans h.below.tape, k.output.trans h.below.output, Nat.le_trans h.below.size k.size, fun i hi => (k.low i (by omega) (by omega)).trans (h.below.block i hi)⟩, k.cells tv _ h.t rfl ht, own_cells h.row fun i o hi ho hc => k.cells i o ho hc (by omega)⟩
theorem src_own (q : Nat) (s : ByteArray) (B : Nat) (f : List Tok) (a e : Int) : OwnFrom B (fun (xs : List Tok) W => xs = f ∧ Src W q s a e) := by
 intro xs W W' row hs hg hr
 refine ⟨hs.1, ?_⟩
 have h : W.heap[q]? = _ := hs.2
 exact (grownBy_keeps_cells hg (fun r e => (hr r e).2) h rfl).trans h
theorem own_blk {w : World} {B t size n : Nat} {v : Value} {xs : List Value} (h : w.ownsRow B t size v n xs) : ∀ g, v.ownBlock = some g → B ≤ g ∧ g < w.heap.size ∧ ∃ o : Obj, w.heap[g]? = some o ∧ o.isCells = true := by
 intro g hg
 rcases h.2 with ⟨rfl, _⟩ | ⟨g', cap, cur, rfl, hb, hh, _⟩
 ·simp [Value.ownBlock] at hg
 ·simp [Value.ownBlock] at hg; subst hg
  exact ⟨hb, (Array.getElem?_eq_some_iff.1 hh).1, _, hh, rfl⟩
theorem tks_app {w W1 W W8 : World} {pre : List Tok} {v v' : Value} {x : Tok} {o : Obj} (h1 : TkS w W1 (w.heap.size + 1) pre v) (h : TkS w W (w.heap.size + 1) pre v) (hs : W1.heap.size ≤ W.heap.size)
  (hown : W8.ownsRow (w.heap.size + 2) 103 4 v' (pre.length + 1) (pre.flatMap tokL ++ tokL x)) (hg : (W.alloc o).grownBy W8 v.ownBlock) :
  (W8.cell? ⟨w.heap.size + 1, 0, none⟩ = some v ∧ W8.frozen? ⟨w.heap.size + 1, 0, none⟩ = false) ∧ TkS w (W8.setCell ⟨w.heap.size + 1, 0, none⟩ v') (w.heap.size + 1) (pre ++ [x]) v' ∧ KeepsOthers W (W8.setCell ⟨w.heap.size + 1, 0, none⟩ v') ∧
  (W8.setCell ⟨w.heap.size + 1, 0, none⟩ v').heap[w.heap.size]? = W.heap[w.heap.size]? ∧ ∀ k, W1.heap.size ≤ k → k < W.heap.size → (W8.setCell ⟨w.heap.size + 1, 0, none⟩ v').heap[k]? = W.heap[k]? := by
 have ht := h.t.lt
 have ht1 := h1.t.lt
 have same : ∀ k, k < W.heap.size → v.ownBlock ≠ some k → W8.heap[k]? = W.heap[k]? := fun k hk hn => (hg.block k (by simp; omega) (fun e => hn e.symm)).trans (Below.heap_alloc W o k hk)
 have low : ∀ k, k < w.heap.size + 2 → v.ownBlock ≠ some k := fun k hk he => by have := (own_blk h.row k he).1; omega
 have hz : W.heap.size < W8.heap.size := by have := hg.size; simp at this; omega
 have hb8 : Blk W8 (w.heap.size + 1) 78 #[v] := (same _ ht (low _ (by omega))).trans h.t
 have hbel : Below w.heap.size w W8 := ⟨hg.os.trans h.below.os, hg.tape.trans h.below.tape, hg.output.trans h.below.output, by have := h.below.size; omega, fun k hk => (same k (by have := h.below.size; omega) (low k (by omega))).trans (h.below.block k hk)⟩
 refine ⟨⟨hb8.c1, hb8.frozen 0⟩, ⟨hbel.setCell (p := ⟨w.heap.size + 1, 0, none⟩) (by simp only; omega) _, by simpa using hb8.set 0 v', ?_⟩, ?_, ?_, ?_⟩
 ·have := own_only hown (Only.setCell (g := w.heap.size + 1) 0 v') (by omega)
  simpa using this
 ·refine (KeepsOthers.alloc W o).trans ((KeepsOthers.of_grownBy hg fun j u hj hu => ?_).trans (KeepsOthers.setCell _ _ _))
  obtain ⟨_, hl, o', ho', hc'⟩ := own_blk h.row j hj
  rw [(Below.heap_alloc W o j hl).trans ho'] at hu
  cases hu; exact hc'
 ·exact ((Only.setCell (g := w.heap.size + 1) (w := W8) 0 v').block _ (by omega) (by omega)).trans (same _ (by omega) (low _ (by omega)))
 ·intro k hk1 hk2
  refine ((Only.setCell (g := w.heap.size + 1) (w := W8) 0 v').block _ (by omega) (by omega)).trans (same _ hk2 fun he => ?_)
  have := (own_blk h1.row k he).2.1
  omega
theorem tokInfo : (Tryz.prog.info? 103).map (fun i => (i.zero, i.size, i.bytes)) = some (some (.agg zeroTok), 4, 40) := by kernel_rfl
/-- what Tokens hands back -/
def RetTk (s : ByteArray) (w : World) (e : Ending) (w' : World) : Prop := Below w.heap.size w w' ∧
 if 2000 < s.size then e = .returned (.tuple #[.slice none 0 0, .int .i64 2000, .int .i64 4])
 else if (lexM s.size 0 (lst s)).2.1 = 0 then ∃ A n c, n = (lexM s.size 0 (lst s)).1.length ∧ e = .returned (.tuple #[.slice A n c, .int .i64 0, .int .i64 0]) ∧ SeqP w' (fun b _ => w.heap.size ≤ b) 4 (.slice A n c) n ((lexM s.size 0 (lst s)).1.flatMap tokL)
 else e = .returned (.tuple #[.slice none 0 0, .int .i64 ((lexM s.size 0 (lst s)).2.2 : Int), .int .i64 (lexM s.size 0 (lst s)).2.1])
set_option maxRecDepth 100000 in
set_option maxHeartbeats 4000000 in
theorem ktokens_any (s : ByteArray) (w : World) (hs : s.size ≤ maxLen) : Calls Tryz.prog 38 #[.string s] w (RetTk s w) := by
 by_cases hbig : 2000 < s.size
 ·have hbig2 : (2000 : Int) < (s.size : Int) := by omega
  refine (callsIn_wide (n := 5)).1 (callsIn_of_wp_marks Tryz.func38 rfl trivial ?_ rfl)
  simp only [Tryz.ntmps38, List.size_toArray, List.length_cons, List.length_nil, Nat.reduceAdd, Nat.reduceSub, Array.replicate_succ, Array.replicate_zero, List.push_toArray, List.append_toArray, List.nil_append, List.cons_append]
  gi_wp2
  exact ⟨_, results_tmp3 rfl _ _ _, Below.refl _ _, by rw [if_pos hbig]; rfl⟩
 ·have hbig2 : ¬ (2000 : Int) < (s.size : Int) := by omega
  have hn : 3 ≤ 5 := by omega
  refine (callsIn_wide (n := 5)).1 (callsIn_of_wp_marks Tryz.func38 rfl trivial ?_ rfl)
  simp only [Tryz.ntmps38, List.size_toArray, List.length_cons, List.length_nil, Nat.reduceAdd, Nat.reduceSub, Array.replicate_succ, Array.replicate_zero, List.push_toArray, List.append_toArray, List.nil_append, List.cons_append]
  gi_wp2
  have H0 : Box (TkS w ((w.alloc (.cells #[.string s, .int .i64 0, .int .i64 0] 100)).alloc (.cells #[.slice none 0 0] 78)) (w.heap.size + 1) [] (.slice none 0 0) ∧ Src ((w.alloc (.cells #[.string s, .int .i64 0, .int .i64 0] 100)).alloc (.cells #[.slice none 0 0] 78)) w.heap.size s 0 0) :=
   ⟨⟨bel2 _ _ _, Blk.newAt _ _ (by simp), World.ownsRow_nil _ _ _ _⟩, (Blk.new _ _ _).alloc _⟩
  have hz : ((w.alloc (.cells #[.string s, .int .i64 0, .int .i64 0] 100)).alloc (.cells #[.slice none 0 0] 78)).heap.size = w.heap.size + 2 := by simp
  generalize (w.alloc (.cells #[.string s, .int .i64 0, .int .i64 0] 100)).alloc (.cells #[.slice none 0 0] 78) = W0 at H0 hz ⊢
  refine range_wr2 (F := Fence.wide) (q := w.heap.size) rfl (by omega) (gf := 58) (fs := #[.pointer (some ⟨w.heap.size, 0, none⟩)]) (lb := #[]) rfl trivial (enters_of Tryz.func58 (by kernel_rfl) rfl)
   (fun t : Tok => #[.agg (tokC t)]) (fun _ => rfl) (fun pre W => ∃ v, TkS w W (w.heap.size + 1) pre v)
   (fun xs W => xs = (lexM s.size 0 (lst s)).1 ∧ Src W w.heap.size s (lexM s.size 0 (lst s)).2.2 (lexM s.size 0 (lst s)).2.1) (fun pre _ => pre.length < 4000)
   (src_own _ _ _ _ _ _) ?wq ⟨_, H0.out.1⟩ (fun t => .cells (tokC t) 103) (fun _ => rfl)
   (fun t tb => { tmps := #[.string s, undef, .slice none 0 0, .int .i64 0, .int .i64 0, .pointer (some ⟨w.heap.size, 0, none⟩), .pointer (some ⟨w.heap.size + 1, 0, none⟩), .pointer (some ⟨tb, 0, none⟩), .string s, .int .i64 (s.size : Int), .bool false, .string s, .agg #[.string s, .int .i64 0, .int .i64 0], .pointer (some ⟨w.heap.size, 0, none⟩), .pointer (some ⟨w.heap.size, 0, none⟩), .func (.func 58) #[.pointer (some ⟨w.heap.size, 0, none⟩)] #[], .agg (tokC t), undef, undef, undef, undef, undef, undef, undef, undef, undef, undef, undef, undef, undef, undef, undef, undef, undef, undef], defers := [] })
   ?seq (by omega) ?assign ?body ?done
  case wq => rintro pre A B ⟨v, h⟩ k; exact ⟨v, h.wq k (by omega) rfl (by omega)⟩
  case seq =>
   intro l J W hB hT hY hJ
   exact keach_in _ (by omega) l w.heap.size s J hT hY W ((hB.block _ (by omega)).trans H0.out.2) hJ (by omega)
  case assign =>
   intro l x W K hK
   gi_wp2
   exact hK
  case body =>
   rintro l pre x W1 W tb hok ⟨v, hT1⟩ h1 hq htb ht
   obtain ⟨A8, a8, rfl⟩ := own_form hT1.row
   have HT1 := Box.mk hT1
   have HT := Box.mk (hT1.wq hq (by omega) rfl (by omega))
   have HQ := Box.mk hq
   have tc0 := HT.out.t.c1
   have htk : Blk W tb 103 (tokC x) := ht
   obtain ⟨k0, k1, k2, k3⟩ := htk.c4
   obtain ⟨j0, hj, hy0, hy1, hy2⟩ := info_parts tokInfo
   have HJ := Box.mk (And.intro hj (And.intro hy0 (And.intro hy1 hy2)))
   clear hj hy0 hy1 hy2 hT1 hq ht htk
   gi_wp2_with (refine wpListIn_append_own _ rfl _ _ 78 rfl (w.heap.size + 2) 103 j0 _ 4 40 Tryz.underlying78 HJ.out.1 HJ.out.2.1 HJ.out.2.2.1 HJ.out.2.2.2 rfl (by decide) (.slice A8 pre.length a8) pre.length (pre.flatMap tokL) rfl (by exact own_below HT.out.row (bel1 _ _)) ⟨W.heap.size, 0, none⟩ 1 1 (tokL x) rfl rfl (World.news_of_block (Blk.new _ _ _)) (by intro u hu; simp [tokL] at hu; rcases hu with rfl | rfl | rfl | rfl <;> rfl) (by unfold maxLen; omega) (by omega) (by have := HT.out.t.lt; simp; omega) ?_; intro v8 w8 hown8 hgr8 hnil8; obtain ⟨A9, a9, rfl⟩ := own_form hown8; obtain ⟨⟨f0, ef8⟩, hS8⟩ := tks_app HT1.out HT.out HQ.out.size hown8 hgr8; have HS8 := Box.mk hS8; clear hS8 hown8 hgr8 hnil8)
   exact ⟨HS8.out.2.1.from _, HS8.out.2.2.1, ⟨_, HS8.out.1⟩, HS8.out.2.2.2⟩
  case done =>
   rintro D xs W hD ⟨rfl, hS⟩ ⟨v, hT⟩ hK
   obtain ⟨A9, a9, rfl⟩ := own_form hT.row
   have HS := Box.mk hS
   have HT := Box.mk hT
   obtain ⟨q0, q1, q2⟩ := hS.c3
   have tc := hT.t.c1
   have HK := Box.mk hK
   have HB : Box (Below w.heap.size W (W.putObj D (.deferred none))) := ⟨belowK_b (w := w) (Nat.le_refl _) _ D _ _ (by omega) hK rfl rfl⟩
   clear hS hT hK
   obtain ⟨er, HE⟩ : ∃ er, Box ((lexM s.size 0 (lst s)).2.1 = er) := ⟨_, ⟨rfl⟩⟩
   rw [HE.out] at q2
   by_cases he : er = 0
   ·subst he
    gi_wp2
    have HR2 : Box (SeqP (W.putObj D (.deferred none)) (fun b _ => w.heap.size ≤ b) 4 (.slice A9 (lexM s.size 0 (lst s)).1.length a9) (lexM s.size 0 (lst s)).1.length ((lexM s.size 0 (lst s)).1.flatMap tokL)) := ⟨(SeqP.of_own (P := fun b _ => w.heap.size + 2 ≤ b) (own_cells HT.out.row fun k o hk ho hc => (World.putObj_heap_other (fun e => by rw [e, HK.out] at ho; cases ho; cases hc)).trans ho) fun b c hb _ => hb).mono fun b e _ hb => by omega⟩
    refine ⟨by simp, .inl ⟨_, _, rfl, run_takeDeferred HK.out, ?_⟩⟩
    exact ⟨_, results_tmp3 rfl _ _ _, HT.out.below.trans HB.out, by rw [if_neg hbig, if_pos HE.out]; exact ⟨_, _, _, rfl, rfl, HR2.out⟩⟩
   ·have he2 : (er != 0) = true := by simpa using he
    gi_upto_region 9 with (fail)
    gi_region
    all_goals
     gi_wp2
     have HB2 : Box (Below w.heap.size W.drew (W.drew.putObj D (.deferred none))) := ⟨belowK_b (w := w) (Nat.le_refl _) _ D _ _ (by omega) HK.out rfl rfl⟩
     refine ⟨by simp, .inl ⟨_, _, rfl, run_takeDeferred HK.out, ?_⟩⟩
     exact ⟨_, results_tmp3 rfl _ _ _, (HT.out.below.trans ((below_drewN W 1).mono (HT.out.below.size))).trans HB2.out, by rw [if_neg hbig, HE.out, if_neg he]; rfl⟩
end
end Go.Proofs.YtpgdijbfkahepaaGreatDoor
