/- Contracts, packed: Uc. -/
import Derived.Test.YtpgdijbfkahepaaGreatDoorPd19
import Derived.Test.YtpgdijbfkahepaaGreatDoorPd32
set_option linter.unusedVariables false
set_option linter.unusedSimpArgs false
namespace Go.Proofs.YtpgdijbfkahepaaGreatDoor
section
open Go.RowKit Go.Shelf
/-- what a loop's caller must bear between two of its rounds: below n nothing turns; blocks of cells lie as they lay -/
structure Bq (n : Nat) (A B : World) : Prop where
 size : A.heap.size ≤ B.heap.size
 os : B.os = A.os
 tape : B.tape = A.tape
 output : B.output = A.output
 low : ∀ k, k < n → B.heap[k]? = A.heap[k]?
 cells : ∀ (k : Nat) (o : Obj), A.heap[k]? = some o → o.isCells = true → B.heap[k]? = some o
theorem Bq.trans {n : Nat} {A B C : World} (h : Bq n A B) (k : Bq n B C) : Bq n A C :=
 ⟨Nat.le_trans h.size k.size, k.os.trans h.os, k.tape.trans h.tape, k.output.trans h.output, fun i hi => (k.low i hi).trans (h.low i hi), fun i o ho hc => k.cells i o (h.cells i o ho hc) hc⟩
theorem Bq.of_below {n : Nat} {A B : World} (h : Below A.heap.size A B) (hn : n ≤ A.heap.size) : Bq n A B :=
 ⟨h.size, h.os, h.tape, h.output, fun k hk => h.block k (by omega), fun k o ho _ => (h.block k (Array.getElem?_eq_some_iff.1 ho).1).trans ho⟩
theorem Bq.put (n : Nat) (A : World) (l : Nat) (o o' : Obj) (hl : n ≤ l) (h : A.heap[l]? = some o) (ho : o.isCells = false) : Bq n A (A.putObj l o') := by
 have hg := grownBy_putObj' A l o'
 refine ⟨hg.size, hg.os, hg.tape, hg.output, fun k hk => World.putObj_heap_other (by omega), fun k u hu hc => ?_⟩
 have : k ≠ l := fun e => by subst e; rw [h] at hu; cases hu; rw [ho] at hc; cases hc
 exact (World.putObj_heap_other this).trans hu
theorem SeqP.bq {n : Nat} {w w' : World} {P : Nat → Nat → Prop} {size m : Nat} {v : Value} {xs : List Value} (h : SeqP w P size v m xs) (f : Bq n w w') : SeqP w' P size v m xs := by
 obtain ⟨h1, A, c, hv, hn, hc, h2⟩ := h
 refine ⟨h1, A, c, hv, hn, hc, fun h0 => ?_⟩
 obtain ⟨b, off, hA, hb, hp, hx⟩ := h2 h0
 refine ⟨b, off, hA, Nat.lt_of_lt_of_le hb f.size, hp, fun j u hu => ?_⟩
 have hcell := hx j u hu
 have hbk : w'.heap[b]? = w.heap[b]? := by
  unfold World.cell? at hcell
  cases ho : w.heap[b]? with
  | none => rw [ho] at hcell; cases hcell
  | some o =>
   rw [ho] at hcell
   exact f.cells b o ho (by cases o <;> first | rfl | simp at hcell)
 exact (World.cell?_of_block (a := ⟨b, off + j, none⟩) hbk).trans hcell
theorem InsAt.bq {n : Nat} {w w' : World} {P : Nat → Nat → Prop} {d : Nd} {mv bv : Value} (h : InsAt w P d mv bv) (f : Bq n w w') : InsAt w' P d mv bv := ⟨h.ok, h.ms.bq f, h.bys.bq f⟩
theorem range_pr {α : Type} {P : Program} {F : Fence} {n : Nat} {g : Operand} {ps : Array Tmp} {assign body : Code} {Q : Exit → Act → World → Prop} {a : Act} {w : World}
  (hro : F.round = none) (h1 : 1 ≤ n) {gf : Nat} {fs lb : Array Value} (hg : a.eval g = .func (.func gf) fs lb) (hFg : F.fn gf) (eg : ∀ args w, (callFunc gf args).run P w = .ok (.enter gf args) w)
  (encs : α → Array Value) (hps : ∀ x, (encs x).size = ps.size) (I : (Nat → Prop) → List α → World → Prop) (S : List α → Prop) (Ok : (Nat → Prop) → α → World → Prop) (Ok2 : List α → α → Prop) (Pr0 : Nat → Prop) (hP0 : ∀ k, Pr0 k → k < w.heap.size)
  (hIT : ∀ Pr Pr' s A B, I Pr s A → Bq w.heap.size A B → (∀ k, Pr' k → Pr k ∨ (A.heap.size ≤ k ∧ k < B.heap.size)) → I Pr' s B) (hOk : ∀ Pr x A B, Ok Pr x A → Bq w.heap.size A B → Ok Pr x B)
  (h0 : I Pr0 [] w) (ob : α → Obj) (hob : ∀ x, (ob x).isCells = true) (a₁ : α → Nat → Act)
  (hseq : ∀ (l : Nat) (J : (Nat → Prop) → List α → World → Prop) (W : World), Below w.heap.size w W →
   (∀ Pr Pr' s A B, J Pr s A → Below A.heap.size A B → (∀ k, Pr' k → Pr k ∨ (A.heap.size ≤ k ∧ k < B.heap.size)) → J Pr' s B) →
   (∀ Pr s A, J Pr s A → ∀ k, Pr k → k < A.heap.size) →
   (∀ m Pr pre x W1, Ok Pr x W1 → Ok2 pre x → J Pr pre W1 → YieldAt F m P l (encs x) W1 fun e W' => e = .returned (.bool true) ∧ J Pr (pre ++ [x]) W' ∧ W1.heap.size ≤ W'.heap.size ∧ ∀ k, Pr k → W'.heap[k]? = W1.heap[k]?) → J Pr0 [] W →
   CallsIn F (n - 1) P gf (fs ++ #[.func (.yield l) #[] #[]] ++ lb) W fun e W' => (∃ v, e = .returned v) ∧ ∃ xs, S xs ∧ J Pr0 xs W')
  (hassign : ∀ (l m : Nat) (Pr : Nat → Prop) (x : α) (W : World) (K : Act → World → Prop), Ok Pr x W → K (a₁ x W.heap.size) (W.alloc (ob x)) →
   assign.wpIn (F.inRound l) m P (Exit.then K (fun _ _ _ => False)) { tmps := (ps.zip (encs x)).foldl (fun t (p, v) => t.setIfInBounds p v) a.tmps, defers := [] } W)
  (hbody : ∀ (l m : Nat) (Pr : Nat → Prop) (pre : List α) (x : α) (W : World) (tb : Nat), Ok Pr x W → Ok2 pre x → I Pr pre W → w.heap.size ≤ W.heap.size → ¬ Pr tb → W.heap[tb]? = some (ob x) →
   body.wpIn (F.inRound l) m P (fun e _ W' => e = .normal ∧ KeepsFrom w.heap.size W W' ∧ I Pr (pre ++ [x]) W' ∧ ∀ k, Pr k → W'.heap[k]? = W.heap[k]?) (a₁ x tb) W)
  (hIl : ∀ Pr s A, I Pr s A → ∀ k, Pr k → k < A.heap.size)
  (hdone : ∀ (D : Nat) (xs : List α) (W : World), w.heap.size ≤ D → S xs → I Pr0 xs W → W.heap[D]? = some (.deferred (some [])) → Q .normal { a with defers := { target := .collected D, args := #[] } :: a.defers } W) :
  (Code.rangeFunc g ps assign body).wpIn F n P Q a w := by
 refine wpIn_rangeFunc ?_
 intro fn hfn
 rw [hro]
 obtain ⟨rec, hrec⟩ : ∃ rec : LoopState → Option Code → Loop, rec = fun st pe => { state := st, pending := pe, fn, tmps := a.tmps, params := ps, assign, body, defers := w.heap.size } := ⟨_, rfl⟩
 obtain ⟨W1, hW1⟩ : ∃ W1, (w.alloc (.deferred (some []))).alloc (.loop (rec .ready none)) = W1 := ⟨_, rfl⟩
 have hL1 : W1.heap[w.heap.size + 1]? = some (.loop (rec .ready none)) := by
  rw [← hW1]; have := World.alloc_heap_new (w.alloc (.deferred (some []))) (.loop (rec .ready none)); rwa [World.size_alloc] at this
 have hK1 : W1.heap[w.heap.size]? = some (.deferred (some [])) := by
  rw [← hW1]; exact (Below.heap_alloc _ _ _ (by simp)).trans (World.alloc_heap_new w _)
 have hb1 : Below w.heap.size w W1 := by rw [← hW1]; exact ((Below.refl _ w).alloc (Nat.le_refl _) _).alloc (by simp) _
 have hI1 : I Pr0 [] W1 := hIT _ _ _ _ _ h0 (Bq.of_below hb1 (Nat.le_refl _)) fun k hk => .inl hk
 refine ⟨w.heap.size + 1, [{ target := .collected w.heap.size, args := #[] }], W1, { target := .fn (.func gf) lb, args := fs ++ #[.func (.yield (w.heap.size + 1)) #[] #[]] }, W1, gf,
  fs ++ #[.func (.yield (w.heap.size + 1)) #[] #[]] ++ lb, W1, ?_, ?_, ?_, ?_, fun _ => h1, ?_⟩
 ·rw [← hW1, hrec]; exact run_enterLoop_outer _ _ _ _ _
 ·simp only [resolve, hg]
  simp [go_sem]
 ·intro f' hf'; simp [Target.leads] at hf'; subst hf'; exact hFg
 ·simp [invoke, go_sem, eg]
 ·refine (hseq (w.heap.size + 1)
   (fun Pr pre W => I Pr pre W ∧ W.heap[w.heap.size + 1]? = some (.loop (rec .ready none)) ∧ W.heap[w.heap.size]? = some (.deferred (some [])) ∧ ∀ k, Pr k → k ≠ w.heap.size + 1 ∧ k ≠ w.heap.size) W1 hb1
   (fun Pr Pr' s A B hs ht hp => ?_) (fun Pr s A hs k hk => hIl Pr s A hs.1 k hk) ?_ ⟨hI1, hL1, hK1, fun k hk => by have := hP0 k hk; omega⟩).mono ?_
  ·have hl := (Array.getElem?_eq_some_iff.1 hs.2.1).1
   refine ⟨hIT _ _ _ _ _ hs.1 (Bq.of_below ht (by omega)) hp, (ht.block _ hl).trans hs.2.1, (ht.block _ (by omega)).trans hs.2.2.1, fun k hk => ?_⟩
   rcases hp k hk with h | h
   ·exact hs.2.2.2 k h
   ·omega
  ·rintro m Pr pre x Wp hok hok2 ⟨hi, hlp, hkp, hpr⟩
   have hltp : w.heap.size + 1 < Wp.heap.size := (Array.getElem?_eq_some_iff.1 hlp).1
   have hy := run_yield (P := P) (args := encs x) hlp (by rw [hrec]; exact hps x)
   rw [hrec] at hy
   refine ⟨fn, _, assign, body, hy, roundIn_of_wpIn hfn (hassign _ _ Pr x Wp _ hok ?_)⟩
   have htb : (Wp.alloc (ob x)).heap[Wp.heap.size]? = some (ob x) := World.alloc_heap_new _ _
   have hsp : ∀ k, k < Wp.heap.size → (Wp.alloc (ob x)).heap[k]? = Wp.heap[k]? := fun k hk => Below.heap_alloc Wp (ob x) k hk
   have hzp : (Wp.alloc (ob x)).heap.size = Wp.heap.size + 1 := by simp
   have hba : Below Wp.heap.size Wp (Wp.alloc (ob x)) := bel1 _ _
   have hprl := hIl _ _ _ hi
   generalize Wp.alloc (ob x) = W at *
   have hl := (hsp _ hltp).trans hlp
   have hk := (hsp _ (by omega)).trans hkp
   have hlt : w.heap.size + 1 < W.heap.size := (Array.getElem?_eq_some_iff.1 hl).1
   refine ⟨_, run_beginRound hl (by rw [hrec]), ?_⟩
   have hl2 : (W.putObj (w.heap.size + 1) (.loop { rec .ready none with state := .busy })).heap[w.heap.size + 1]? = some (.loop { rec .ready none with state := .busy }) := World.putObj_heap_same hlt
   have hk2 : (W.putObj (w.heap.size + 1) (.loop { rec .ready none with state := .busy })).heap[w.heap.size]? = some (.deferred (some [])) := (World.putObj_heap_other (by omega)).trans hk
   have hz2 : (W.putObj (w.heap.size + 1) (.loop { rec .ready none with state := .busy })).heap.size = W.heap.size := by simp [World.putObj]
   have hs2 : ∀ k, Pr k → (W.putObj (w.heap.size + 1) (.loop { rec .ready none with state := .busy })).heap[k]? = Wp.heap[k]? := fun k hk => (World.putObj_heap_other (hpr k hk).1).trans (hsp k (hprl k hk))
   have hbq : Bq w.heap.size Wp (W.putObj (w.heap.size + 1) (.loop { rec .ready none with state := .busy })) := (Bq.of_below hba (by omega)).trans (Bq.put _ _ _ _ _ (by omega) hl rfl)
   refine wpIn_mono (hbody _ _ Pr pre x _ Wp.heap.size (hOk _ _ _ _ hok hbq) hok2 (hIT _ _ _ _ _ hi hbq fun k hk => .inl hk) (by rw [hz2]; omega) (fun h => by have := hprl _ h; omega) ((World.putObj_heap_other (by omega)).trans htb)) ?_
   rintro e a3 W3 ⟨rfl, hk3, hi3, hsame3⟩
   have hl3 := hk3.same _ _ (by omega) hl2 rfl
   have hr := run_endRound (P := P) none hl3
   rw [hrec] at hr
   have hlt3 := (Array.getElem?_eq_some_iff.1 hl3).1
   have hl4 : (W3.putObj (w.heap.size + 1) (.loop (rec .ready none))).heap[w.heap.size + 1]? = some (.loop (rec .ready none)) := World.putObj_heap_same hlt3
   have hk4 : (W3.putObj (w.heap.size + 1) (.loop (rec .ready none))).heap[w.heap.size]? = some (.deferred (some [])) := (World.putObj_heap_other (by omega)).trans (hk3.same _ _ (Nat.le_refl _) hk2 rfl)
   have hJ4 := hIT _ _ _ _ _ hi3 (Bq.put w.heap.size W3 (w.heap.size + 1) _ (.loop (rec .ready none)) (by omega) hl3 rfl) fun k hk => .inl hk
   have hs4 : ∀ k, Pr k → (W3.putObj (w.heap.size + 1) (.loop (rec .ready none))).heap[k]? = W3.heap[k]? := fun k hk => World.putObj_heap_other (hpr k hk).1
   have hz4 : Wp.heap.size ≤ (W3.putObj (w.heap.size + 1) (.loop (rec .ready none))).heap.size := by
    have h1 := hk3.size
    rw [hz2] at h1
    have h2 : (W3.putObj (w.heap.size + 1) (.loop (rec .ready none))).heap.size = W3.heap.size := by simp [World.putObj]
    omega
   rw [hrec] at hl4 hk4 hJ4 hs4 hsame3 hs2 hz4 ⊢
   exact ⟨_, _, hr, rfl, ⟨hJ4, hl4, hk4, hpr⟩, hz4, fun k hk => (hs4 k hk).trans ((hsame3 k hk).trans (hs2 k hk))⟩
  ·rintro e W2 ⟨⟨v, rfl⟩, xs, hSx, hi, hl, hk, hpr⟩
   exact ⟨none, _, by have := run_endLoop (P := P) hl (by rw [hrec]; simp); rw [hrec] at this; exact this, hdone _ xs _ (Nat.le_refl _) hSx (hIT _ _ _ _ _ hi (Bq.put _ _ _ _ _ (by omega) hl rfl) fun k hk => .inl hk) ((World.putObj_heap_other (by omega)).trans hk)⟩
end
end Go.Proofs.YtpgdijbfkahepaaGreatDoor
