/- Contracts, packed: Uc Lf Lg. -/
import Derived.Test.YtkdojgkiclndfaaGreatDoorPx16
import Derived.Test.YtkdojgkiclndfaaGreatDoorPx34
import Derived.Test.YtkdojgkiclndfaaGreatDoorPx35
set_option linter.unusedVariables false
set_option linter.unusedSimpArgs false
namespace Go.Proofs.YtkdojgkiclndfaaGreatDoor
section
open Go.RowKit Go.Shelf
/-- what a loop's caller must bear between two of its rounds: below n nothing turns; blocks of cells lie as they lay -/
structure Bq (n : Nat) (A B : World) : Prop where
 size : A.heap.size ≤ B.heap.size
 os : B.os = A.os
 tape : B.tape = A.tape
 output : B.output = A.output
 low : ∀ k, k < n → B.heap[k]? = A.heap[k]?
 cells : ∀ (k : Nat) (o : Obj), A.heap[k]? = some o → o.isCells = true → B.heap[k]? = some o
theorem Bq.trans {n : Nat} {A B C : World} (h : Bq n A B) (k : Bq n B C) : Bq n A C :=
 ⟨Nat.le_trans h.size k.size, k.os.trans h.os, k.tape.trans h.tape, k.output.trans h.output, fun i hi => (k.low i hi).trans (h.low i hi), fun i o ho hc => k.cells i o (h.cells i o ho hc) hc⟩
theorem Bq.of_below {n : Nat} {A B : World} (h : Below A.heap.size A B) (hn : n ≤ A.heap.size) : Bq n A B :=
 ⟨h.size, h.os, h.tape, h.output, fun k hk => h.block k (by omega), fun k o ho _ => (h.block k (Array.getElem?_eq_some_iff.1 ho).1).trans ho⟩
theorem Bq.put (n : Nat) (A : World) (l : Nat) (o o' : Obj) (hl : n ≤ l) (h : A.heap[l]? = some o) (ho : o.isCells = false) : Bq n A (A.putObj l o') := by
 have hg := grownBy_putObj' A l o'
 refine ⟨hg.size, hg.os, hg.tape, hg.output, fun k hk => World.putObj_heap_other (by omega), fun k u hu hc => ?_⟩
 have : k ≠ l := fun e => by subst e; rw [h] at hu; cases hu; rw [ho] at hc; cases hc
 exact (World.putObj_heap_other this).trans hu
theorem SeqP.bq {n : Nat} {w w' : World} {P : Nat → Nat → Prop} {size m : Nat} {v : Value} {xs : List Value} (h : SeqP w P size v m xs) (f : Bq n w w') : SeqP w' P size v m xs := by
 obtain ⟨h1, A, c, hv, hn, hc, h2⟩ := h
 refine ⟨h1, A, c, hv, hn, hc, fun h0 => ?_⟩
 obtain ⟨b, off, hA, hb, hp, hx⟩ := h2 h0
 refine ⟨b, off, hA, Nat.lt_of_lt_of_le hb f.size, hp, fun j u hu => ?_⟩
 have hcell := hx j u hu
 have hbk : w'.heap[b]? = w.heap[b]? := by
  unfold World.cell? at hcell
  cases ho : w.heap[b]? with
  | none => rw [ho] at hcell; cases hcell
  | some o =>
   rw [ho] at hcell
   exact f.cells b o ho (by cases o <;> first | rfl | simp at hcell)
 exact (World.cell?_of_block (a := ⟨b, off + j, none⟩) hbk).trans hcell
theorem InsAt.bq {n : Nat} {w w' : World} {P : Nat → Nat → Prop} {d : Nd} {mv bv : Value} (h : InsAt w P d mv bv) (f : Bq n w w') : InsAt w' P d mv bv := ⟨h.ok, h.ms.bq f, h.bys.bq f⟩
theorem range_pr {α : Type} {P : Program} {F : Fence} {n : Nat} {g : Operand} {ps : Array Tmp} {assign body : Code} {Q : Exit → Act → World → Prop} {a : Act} {w : World}
  (hro : F.round = none) (h1 : 1 ≤ n) {gf : Nat} {fs lb : Array Value} (hg : a.eval g = .func (.func gf) fs lb) (hFg : F.fn gf) (eg : ∀ args w, (callFunc gf args).run P w = .ok (.enter gf args) w)
  (encs : α → Array Value) (hps : ∀ x, (encs x).size = ps.size) (I : (Nat → Prop) → List α → World → Prop) (S : List α → Prop) (Ok : (Nat → Prop) → α → World → Prop) (Ok2 : List α → α → Prop) (Pr0 : Nat → Prop) (hP0 : ∀ k, Pr0 k → k < w.heap.size)
  (hIT : ∀ Pr Pr' s A B, I Pr s A → Bq w.heap.size A B → (∀ k, Pr' k → Pr k ∨ (A.heap.size ≤ k ∧ k < B.heap.size)) → I Pr' s B) (hOk : ∀ Pr x A B, Ok Pr x A → Bq w.heap.size A B → Ok Pr x B)
  (h0 : I Pr0 [] w) (ob : α → Obj) (hob : ∀ x, (ob x).isCells = true) (a₁ : α → Nat → Act)
  (hseq : ∀ (l : Nat) (J : (Nat → Prop) → List α → World → Prop) (W : World), Below w.heap.size w W →
   (∀ Pr Pr' s A B, J Pr s A → Below A.heap.size A B → (∀ k, Pr' k → Pr k ∨ (A.heap.size ≤ k ∧ k < B.heap.size)) → J Pr' s B) →
   (∀ Pr s A, J Pr s A → ∀ k, Pr k → k < A.heap.size) →
   (∀ m Pr pre x W1, Ok Pr x W1 → Ok2 pre x → J Pr pre W1 → YieldAt F m P l (encs x) W1 fun e W' => e = .returned (.bool true) ∧ J Pr (pre ++ [x]) W' ∧ W1.heap.size ≤ W'.heap.size ∧ ∀ k, Pr k → W'.heap[k]? = W1.heap[k]?) → J Pr0 [] W →
   CallsIn F (n - 1) P gf (fs ++ #[.func (.yield l) #[] #[]] ++ lb) W fun e W' => (∃ v, e = .returned v) ∧ ∃ xs, S xs ∧ J Pr0 xs W')
  (hassign : ∀ (l m : Nat) (Pr : Nat → Prop) (x : α) (W : World) (K : Act → World → Prop), Ok Pr x W → K (a₁ x W.heap.size) (W.alloc (ob x)) →
   assign.wpIn (F.inRound l) m P (Exit.then K (fun _ _ _ => False)) { tmps := (ps.zip (encs x)).foldl (fun t (p, v) => t.setIfInBounds p v) a.tmps, defers := [] } W)
  (hbody : ∀ (l m : Nat) (Pr : Nat → Prop) (pre : List α) (x : α) (W : World) (tb : Nat), Ok Pr x W → Ok2 pre x → I Pr pre W → w.heap.size ≤ W.heap.size → ¬ Pr tb → W.heap[tb]? = some (ob x) →
   body.wpIn (F.inRound l) m P (fun e _ W' => e = .normal ∧ KeepsFrom w.heap.size W W' ∧ I Pr (pre ++ [x]) W' ∧ ∀ k, Pr k → W'.heap[k]? = W.heap[k]?) (a₁ x tb) W)
  (hIl : ∀ Pr s A, I Pr s A → ∀ k, Pr k → k < A.heap.size)
  (hdone : ∀ (D : Nat) (xs : List α) (W : World), w.heap.size ≤ D → S xs → I Pr0 xs W → W.heap[D]? = some (.deferred (some [])) → Q .normal { a with defers := { target := .collected D, args := #[] } :: a.defers } W) :
  (Code.rangeFunc g ps assign body).wpIn F n P Q a w := by
 refine wpIn_rangeFunc ?_
 intro fn hfn
 rw [hro]
 obtain ⟨rec, hrec⟩ : ∃ rec : LoopState → Option Code → Loop, rec = fun st pe => { state := st, pending := pe, fn, tmps := a.tmps, params := ps, assign, body, defers := w.heap.size } := ⟨_, rfl⟩
 obtain ⟨W1, hW1⟩ : ∃ W1, (w.alloc (.deferred (some []))).alloc (.loop (rec .ready none)) = W1 := ⟨_, rfl⟩
 have hL1 : W1.heap[w.heap.size + 1]? = some (.loop (rec .ready none)) := by
  rw [← hW1]; have := World.alloc_heap_new (w.alloc (.deferred (some []))) (.loop (rec .ready none)); rwa [World.size_alloc] at this
 have hK1 : W1.heap[w.heap.size]? = some (.deferred (some [])) := by
  rw [← hW1]; exact (Below.heap_alloc _ _ _ (by simp)).trans (World.alloc_heap_new w _)
 have hb1 : Below w.heap.size w W1 := by rw [← hW1]; exact ((Below.refl _ w).alloc (Nat.le_refl _) _).alloc (by simp) _
 have hI1 : I Pr0 [] W1 := hIT _ _ _ _ _ h0 (Bq.of_below hb1 (Nat.le_refl _)) fun k hk => .inl hk
 refine ⟨w.heap.size + 1, [{ target := .collected w.heap.size, args := #[] }], W1, { target := .fn (.func gf) lb, args := fs ++ #[.func (.yield (w.heap.size + 1)) #[] #[]] }, W1, gf,
  fs ++ #[.func (.yield (w.heap.size + 1)) #[] #[]] ++ lb, W1, ?_, ?_, ?_, ?_, fun _ => h1, ?_⟩
 ·rw [← hW1, hrec]; exact run_enterLoop_outer _ _ _ _ _
 ·simp only [resolve, hg]
  simp [go_sem]
 ·intro f' hf'; simp [Target.leads] at hf'; subst hf'; exact hFg
 ·simp [invoke, go_sem, eg]
 ·refine (hseq (w.heap.size + 1)
   (fun Pr pre W => I Pr pre W ∧ W.heap[w.heap.size + 1]? = some (.loop (rec .ready none)) ∧ W.heap[w.heap.size]? = some (.deferred (some [])) ∧ ∀ k, Pr k → k ≠ w.heap.size + 1 ∧ k ≠ w.heap.size) W1 hb1
   (fun Pr Pr' s A B hs ht hp => ?_) (fun Pr s A hs k hk => hIl Pr s A hs.1 k hk) ?_ ⟨hI1, hL1, hK1, fun k hk => by have := hP0 k hk; omega⟩).mono ?_
  ·have hl := (Array.getElem?_eq_some_iff.1 hs.2.1).1
   refine ⟨hIT _ _ _ _ _ hs.1 (Bq.of_below ht (by omega)) hp, (ht.block _ hl).trans hs.2.1, (ht.block _ (by omega)).trans hs.2.2.1, fun k hk => ?_⟩
   rcases hp k hk with h | h
   ·exact hs.2.2.2 k h
   ·omega
  ·rintro m Pr pre x Wp hok hok2 ⟨hi, hlp, hkp, hpr⟩
   have hltp : w.heap.size + 1 < Wp.heap.size := (Array.getElem?_eq_some_iff.1 hlp).1
   have hy := run_yield (P := P) (args := encs x) hlp (by rw [hrec]; exact hps x)
   rw [hrec] at hy
   refine ⟨fn, _, assign, body, hy, roundIn_of_wpIn hfn (hassign _ _ Pr x Wp _ hok ?_)⟩
   have htb : (Wp.alloc (ob x)).heap[Wp.heap.size]? = some (ob x) := World.alloc_heap_new _ _
   have hsp : ∀ k, k < Wp.heap.size → (Wp.alloc (ob x)).heap[k]? = Wp.heap[k]? := fun k hk => Below.heap_alloc Wp (ob x) k hk
   have hzp : (Wp.alloc (ob x)).heap.size = Wp.heap.size + 1 := by simp
   have hba : Below Wp.heap.size Wp (Wp.alloc (ob x)) := bel1 _ _
   have hprl := hIl _ _ _ hi
   generalize Wp.alloc (ob x) = W at *
   have hl := (hsp _ hltp).trans hlp
   have hk := (hsp _ (by omega)).trans hkp
   have hlt : w.heap.size + 1 < W.heap.size := (Array.getElem?_eq_some_iff.1 hl).1
   refine ⟨_, run_beginRound hl (by rw [hrec]), ?_⟩
   have hl2 : (W.putObj (w.heap.size + 1) (.loop { rec .ready none with state := .busy })).heap[w.heap.size + 1]? = some (.loop { rec .ready none with state := .busy }) := World.putObj_heap_same hlt
   have hk2 : (W.putObj (w.heap.size + 1) (.loop { rec .ready none with state := .busy })).heap[w.heap.size]? = some (.deferred (some [])) := (World.putObj_heap_other (by omega)).trans hk
   have hz2 : (W.putObj (w.heap.size + 1) (.loop { rec .ready none with state := .busy })).heap.size = W.heap.size := by simp [World.putObj]
   have hs2 : ∀ k, Pr k → (W.putObj (w.heap.size + 1) (.loop { rec .ready none with state := .busy })).heap[k]? = Wp.heap[k]? := fun k hk => (World.putObj_heap_other (hpr k hk).1).trans (hsp k (hprl k hk))
   have hbq : Bq w.heap.size Wp (W.putObj (w.heap.size + 1) (.loop { rec .ready none with state := .busy })) := (Bq.of_below hba (by omega)).trans (Bq.put _ _ _ _ _ (by omega) hl rfl)
   refine wpIn_mono (hbody _ _ Pr pre x _ Wp.heap.size (hOk _ _ _ _ hok hbq) hok2 (hIT _ _ _ _ _ hi hbq fun k hk => .inl hk) (by rw [hz2]; omega) (fun h => by have := hprl _ h; omega) ((World.putObj_heap_other (by omega)).trans htb)) ?_
   rintro e a3 W3 ⟨rfl, hk3, hi3, hsame3⟩
   have hl3 := hk3.same _ _ (by omega) hl2 rfl
   have hr := run_endRound (P := P) none hl3
   rw [hrec] at hr
   have hlt3 := (Array.getElem?_eq_some_iff.1 hl3).1
   have hl4 : (W3.putObj (w.heap.size + 1) (.loop (rec .ready none))).heap[w.heap.size + 1]? = some (.loop (rec .ready none)) := World.putObj_heap_same hlt3
   have hk4 : (W3.putObj (w.heap.size + 1) (.loop (rec .ready none))).heap[w.heap.size]? = some (.deferred (some [])) := (World.putObj_heap_other (by omega)).trans (hk3.same _ _ (Nat.le_refl _) hk2 rfl)
   have hJ4 := hIT _ _ _ _ _ hi3 (Bq.put w.heap.size W3 (w.heap.size + 1) _ (.loop (rec .ready none)) (by omega) hl3 rfl) fun k hk => .inl hk
   have hs4 : ∀ k, Pr k → (W3.putObj (w.heap.size + 1) (.loop (rec .ready none))).heap[k]? = W3.heap[k]? := fun k hk => World.putObj_heap_other (hpr k hk).1
   have hz4 : Wp.heap.size ≤ (W3.putObj (w.heap.size + 1) (.loop (rec .ready none))).heap.size := by
    have h1 := hk3.size
    rw [hz2] at h1
    have h2 : (W3.putObj (w.heap.size + 1) (.loop (rec .ready none))).heap.size = W3.heap.size := by simp [World.putObj]
    omega
   rw [hrec] at hl4 hk4 hJ4 hs4 hsame3 hs2 hz4 ⊢
   exact ⟨_, _, hr, rfl, ⟨hJ4, hl4, hk4, hpr⟩, hz4, fun k hk => (hs4 k hk).trans ((hsame3 k hk).trans (hs2 k hk))⟩
  ·rintro e W2 ⟨⟨v, rfl⟩, xs, hSx, hi, hl, hk, hpr⟩
   exact ⟨none, _, by have := run_endLoop (P := P) hl (by rw [hrec]; simp); rw [hrec] at this; exact this, hdone _ xs _ (Nat.le_refl _) hSx (hIT _ _ _ _ _ hi (Bq.put _ _ _ _ _ (by omega) hl rfl) fun k hk => .inl hk) ((World.putObj_heap_other (by omega)).trans hk)⟩
end
section
open Go.RowKit FracM
theorem F3_op {x : List UInt8} {es : List ETok} (h1 : x ≠ [123]) (h2 : x ≠ [46]) (h3 : x ≠ [64]) : Fw3 (eS x :: es) := by
 refine ⟨?_, ?_, ?_⟩ <;> simp [isE] <;> assumption
theorem F1_shut (es : List ETok) : Fw1 (eS [41] :: es) := by
 refine ⟨⟨⟨?_, ?_, ?_⟩, ?_, ?_⟩, ?_, ?_⟩ <;> simp [isE]
theorem F2_pm {k : Nat} (h : k < 2) (es : List ETok) : Fw2 (eS (opAt k) :: es) := by
 match k, h with
 | 0, _ => refine ⟨⟨?_, ?_, ?_⟩, ?_, ?_⟩ <;> simp [isE, opAt, opersT]
 | 1, _ => refine ⟨⟨?_, ?_, ?_⟩, ?_, ?_⟩ <;> simp [isE, opAt, opersT]
theorem F3_opr {k : Nat} (h : k < 4) (es : List ETok) : Fw3 (eS (opAt k) :: es) := by
 match k, h with
 | 0, _ => exact F3_op (by decide) (by decide) (by decide)
 | 1, _ => exact F3_op (by decide) (by decide) (by decide)
 | 2, _ => exact F3_op (by decide) (by decide) (by decide)
 | 3, _ => exact F3_op (by decide) (by decide) (by decide)
theorem term_done {fac : List Tok → Res Tree} {t : Tree} {ts : List Tok} {es : List ETok} (h : Chain fac 2 t ts es) (hf : Fw2 es) : PR (termOf fac ts) t es := h.done (by omega) hf.2.1 hf.2.2
theorem expr_done {fac : List Tok → Res Tree} {t : Tree} {ts : List Tok} {es : List ETok} (h : Chain (termOf fac) 0 t ts es) (hf : Fw1 es) : PR (exprOf fac ts) t es := h.done (by omega) hf.2.1 hf.2.2
theorem fac_num {en : Int} {n : Nat} {k : Int} {ts : List Tok} {es : List ETok} (h : ts.map er = eN k :: es) : PR (facM en (n + 1) ts) (numT k) es := by
 obtain ⟨-, -, h3, h4, -⟩ := hd_er h
 rw [facM, kindT_er, h, if_pos (by simp [kindE]), show (headT ts).n = k from h3]
 exact PR.ok h4
theorem fac_open {en : Int} {n : Nat} {l : List ETok} {t : Tree} {ts : List Tok} {es : List ETok} (h : ts.map er = eS [40] :: (l ++ eS [41] :: es)) (hx : ∀ us, us.map er = l ++ eS [41] :: es → PR (exprOf (facM en n) us) t (eS [41] :: es)) : PR (facM en (n + 1) ts) t es := by
 rw [facM, kindT_er, h, if_neg (by simp [kindE]), isT_er, h, if_pos (by simp [isE])]
 exact (hx _ (hd_er h).2.2.2.1).and fun u1 hu1 => (symbol_ok hu1).and fun u2 hu2 => PR.ok hu2
/-- a number and its denominator -/
def fracT (a d : Int) : Tree := if d = 1 then numT a else binT 3 (numT a) (numT d)
theorem term_frac {en : Int} {n : Nat} {a d : Int} {ts : List Tok} {es : List ETok} (h : ts.map er = eN a :: ((if d = 1 then [] else [eS [47], eN d]) ++ es)) (hf : Fw2 es) : PR (termOf (facM en (n + 1)) ts) (fracT a d) es := by
 refine term_done ?_ hf
 unfold fracT
 by_cases hd : d = 1
 ·rw [if_pos hd] at h ⊢
  exact Chain.base (fac_num (by simpa using h))
 ·rw [if_neg hd] at h ⊢
  refine Chain.step (fn := 3) (rs := [eN d]) (by omega) (by omega) (Chain.base (fac_num (by simpa [opAt, opersT] using h))) fun us hu => fac_num (by simpa using hu)
theorem fac_number {en : Int} {n : Nat} {a d : Int} {ts : List Tok} {es : List ETok} (h : ts.map er = tNum a d ++ es) (hn : (tNum a d).length < n) : PR (facM en n ts) (normN a d) es := by
 obtain ⟨n, rfl⟩ : ∃ k, n = k + 1 := ⟨n - 1, by omega⟩
 unfold tNum at h hn
 unfold normN
 by_cases hz : natE a d = true
 ·rw [if_pos hz] at h ⊢
  exact fac_num (by simpa using h)
 ·rw [if_neg hz] at h hn ⊢
  obtain ⟨n, rfl⟩ : ∃ k, n = k + 1 := ⟨n - 1, by simp only [List.length_cons, List.length_append] at hn; omega⟩
  have e : (if a < 0 then (if d = 1 then binT 1 (numT 0) (numT (absI a)) else binT 1 (numT 0) (binT 3 (numT (absI a)) (numT d))) else (if d = 1 then numT (absI a) else binT 3 (numT (absI a)) (numT d))) = (if a < 0 then binT 1 (numT 0) (fracT (absI a) d) else fracT (absI a) d) := by
   unfold fracT
   split <;> split <;> rfl
  have hx : ∀ us, us.map er = ((if a < 0 then [eN 0, eS [45]] else []) ++ (eN (absI a) :: (if d = 1 then [] else [eS [47], eN d]))) ++ eS [41] :: es → PR (exprOf (facM en (n + 1)) us) (if a < 0 then binT 1 (numT 0) (fracT (absI a) d) else fracT (absI a) d) (eS [41] :: es) := by
   intro us hu
   refine expr_done ?_ (F1_shut es)
   by_cases ha : a < 0
   ·rw [if_pos ha] at hu ⊢
    refine Chain.step (fn := 1) (rs := eN (absI a) :: (if d = 1 then [] else [eS [47], eN d])) (by omega) (by omega) (Chain.base ?_) fun vs hv => term_frac (by simpa using hv) (F1_shut es).1
    have := term_frac (en := en) (n := n) (a := 0) (d := 1) (ts := us) (es := eS (opAt 1) :: (eN (absI a) :: (if d = 1 then [] else [eS [47], eN d]) ++ eS [41] :: es)) (by simpa [opAt, opersT] using hu) (F2_pm (by omega) _)
    simpa [fracT] using this
   ·rw [if_neg ha] at hu ⊢
    exact Chain.base (term_frac (by simpa using hu) (F1_shut es).1)
  have hd1 : ¬ a < 0 → ¬ d = 1 → True := fun _ _ => trivial
  have hgoal := fac_open (en := en) (n := n + 1) (t := if a < 0 then binT 1 (numT 0) (fracT (absI a) d) else fracT (absI a) d) (ts := ts) (es := es) (l := (if a < 0 then [eN 0, eS [45]] else []) ++ (eN (absI a) :: (if d = 1 then [] else [eS [47], eN d]))) (by rw [h]; simp) hx
  rw [← e] at hgoal
  exact hgoal
end
section
open Go.RowKit FracM
theorem ba_nil {s : ByteArray} (h : s.toList.isEmpty = true) : s = ⟨#[]⟩ := by
 rw [ByteArray.toList_eq] at h
 obtain ⟨l⟩ := s
 simp at h
 rw [h]
theorem no_grp {s : ByteArray} (h : inGroups s = false) : ¬ (0 ≤ idxT groupsT s.data.toList) := by
 have e : inGroups s = groupsT.any fun y => y == s.data.toList := by
  unfold inGroups
  simp only [ByteArray.toList_eq, groupsL, groupsT, List.any_cons, List.any_nil]
 rw [e] at h
 unfold idxT
 rw [List.findIdx?_eq_none_iff.2 (fun x hx => by
  have := List.any_eq_false.1 h x hx
  simpa using this)]
 decide
theorem sel_p {d : Nd} {n : Nat} (h : chk1 d n = 0) (hk : d.kind = 1) : SelP d ∧ inGroups d.name = false := by
 obtain ⟨a1, a2, a3, a4, a5⟩ := chk1_all h
 have hs := psel_ok h hk
 unfold namedB at a2
 simp only [Bool.and_eq_true] at a2
 have hg := a2.1.1
 rw [show (d.kind == 1) = true by simpa using hk] at hg
 simp at hg
 unfold rangedB at a5
 rw [if_pos hk] at a5
 simp only [Bool.and_eq_true, decide_eq_true_eq] at a5
 unfold shapedB at a1
 rw [if_neg (by omega), if_pos hk] at a1
 unfold noNumB at a1
 simp only [Bool.and_eq_true, decide_eq_true_eq, beq_iff_eq, List.isEmpty_iff] at a1
 refine ⟨⟨hs, hk, fun hf => ?_, fun hf => ?_, a1.1.2, a1.2, a3⟩, hg.2⟩
 ·have := a5.2; rw [if_pos hf] at this; simpa using this
 ·have := a5.2
  by_cases h0 : d.fn = 0
  ·rw [if_pos h0] at this; simp at this; exact this.2
  ·rw [if_neg h0, if_neg hf] at this; simp at this; exact this.2
theorem grp_p {d : Nd} {n : Nat} (h : chk1 d n = 0) (hk : d.kind = 2) : GrpP d := by
 obtain ⟨a1, a2, a3, a4, a5⟩ := chk1_all h
 have hs := pgrp_ok h hk
 unfold namedB at a2
 simp only [Bool.and_eq_true] at a2
 unfold rangedB at a5
 rw [if_neg (by omega), if_pos hk] at a5
 unfold shapedB at a1
 rw [if_neg (by omega), if_neg (by omega), if_pos hk] at a1
 unfold noNumB noSelB at a1
 simp only [Bool.and_eq_true, decide_eq_true_eq, beq_iff_eq] at a1
 refine ⟨hs, hk, ⟨a1.2.1.1.1, a1.2.1.1.2, a1.1.2.1, a1.1.2.2⟩, fun hf => ?_, ba_nil a1.2.1.2, List.isEmpty_iff.1 a1.2.2, a2.2, a4⟩
 rw [if_neg hf] at a5
 simpa using a5
theorem bin_p {d : Nd} {n : Nat} (h : chk1 d n = 0) (hk : d.kind = 3) : ∃ f : Nat, f < 4 ∧ d = (binT f (numT 0) (numT 0)).d := by
 obtain ⟨a1, a2, a3, a4, a5⟩ := chk1_all h
 unfold shapedB at a1
 rw [if_neg (by omega), if_neg (by omega), if_neg (by omega), if_pos hk] at a1
 unfold noNumB noSelB at a1
 simp only [Bool.and_eq_true, decide_eq_true_eq, beq_iff_eq, List.isEmpty_iff] at a1
 obtain ⟨⟨⟨⟨⟨⟨b1, b2⟩, b3⟩, b4⟩, b5⟩, b6⟩, b7⟩ := a1
 obtain ⟨kd, fn, wi, of, k, nu, de, na, ms, bys⟩ := d
 simp only at b1 b2 b3 b4 b5 b6 b7 hk
 obtain ⟨⟨⟨c1, c2⟩, c3⟩, c4⟩ := b5
 obtain ⟨c5, c6⟩ := b4
 have c3' := ba_nil (s := na) (by simpa using c3)
 subst c1 c2 c3' c4 c5 c6 b6 b7 hk
 obtain ⟨f, rfl⟩ : ∃ f : Nat, fn = f := ⟨fn.toNat, by omega⟩
 exact ⟨f, by omega, rfl⟩
theorem normL_eq (ks : List Tree) : normL ks = ks.map norm := by
 induction ks with
 | nil => rfl
 | cons t ts ih => rw [normL, ih]; rfl
/-- what the parser makes of the tokens of a tree -/
structure Back (t : Tree) : Prop where
 fac : t.d.kind ≠ 3 → ∀ en n ts es, (toksT t).length < n → ts.map er = toksT t ++ es → Fw3 es → PR (facM en n ts) (norm t) es
 term : precT t.d ≠ 1 → ∀ en n ts es, (toksT t).length < n → ts.map er = toksT t ++ es → Fw3 es → Chain (facM en n) 2 (norm t) ts es
 expr : ∀ en n ts es, (toksT t).length < n → ts.map er = toksT t ++ es → Fw2 es → Chain (termOf (facM en n)) 0 (norm t) ts es
theorem Back.of_fac {t : Tree} (h : ∀ en n ts es, (toksT t).length < n → ts.map er = toksT t ++ es → Fw3 es → PR (facM en n ts) (norm t) es) : Back t :=
 ⟨fun _ => h, fun _ en n ts es hn hu hf => Chain.base (h en n ts es hn hu hf), fun en n ts es hn hu hf => Chain.base (term_done (Chain.base (h en n ts es hn hu hf.1)) hf)⟩
theorem Back.of_term {t : Tree} (hk : t.d.kind = 3) (h : ∀ en n ts es, (toksT t).length < n → ts.map er = toksT t ++ es → Fw3 es → Chain (facM en n) 2 (norm t) ts es) : Back t :=
 ⟨fun h => absurd hk h, fun _ => h, fun en n ts es hn hu hf => Chain.base (term_done (h en n ts es hn hu hf.1) hf)⟩
theorem Back.paren {t : Tree} (h : Back t) {en : Int} {n : Nat} {ts : List Tok} {es : List ETok} (hn : (toksT t).length + 2 < n) (hu : ts.map er = tEncl true (toksT t) ++ es) : PR (facM en n ts) (norm t) es := by
 obtain ⟨n, rfl⟩ : ∃ k, n = k + 1 := ⟨n - 1, by omega⟩
 refine fac_open (l := toksT t) (by rw [hu]; simp [tEncl]) fun us hv => expr_done (h.expr en n us _ (by omega) hv (F1_shut es).1) (F1_shut es)
theorem prec_cases (t : Tree) : precT t.d = 1 ∨ precT t.d = 2 ∨ (precT t.d = 3 ∧ t.d.kind ≠ 3) := by
 unfold precT
 split
 ·split
  ·exact .inl rfl
  ·exact .inr (.inl rfl)
 ·next h => exact .inr (.inr ⟨rfl, h⟩)
theorem precT_bin (f : Nat) (a b : Tree) (h : f < 4) : precT (binT f a b).d = if f < 2 then 1 else 2 := by
 match f, h with
 | 0, _ => rfl
 | 1, _ => rfl
 | 2, _ => rfl
 | 3, _ => rfl
theorem back_bin {f : Nat} (hf : f < 4) {a b : Tree} (ha : Back a) (hb : Back b) (hT : toksT (binT f a b) = tEncl (decide (precT a.d < if f < 2 then 1 else 2)) (toksT a) ++ (eS (opAt f) :: tEncl (decide (precT b.d ≤ if f < 2 then 1 else 2)) (toksT b))) (hN : norm (binT f a b) = binT f (norm a) (norm b)) : Back (binT f a b) := by
 have hlen : ∀ q (l : List ETok), (tEncl q l).length = if q then l.length + 2 else l.length := fun q l => by cases q <;> simp [tEncl]
 by_cases h2 : f < 2
 ·rw [if_pos h2, show decide (precT a.d < 1) = false by rcases prec_cases a with h | h | h <;> simp [h]] at hT
  refine ⟨fun h => absurd rfl h, fun h => ?_, fun en n ts es hn hu hF => ?_⟩
  ·rw [precT_bin f a b hf, if_pos h2] at h; exact absurd rfl h
  ·rw [hT] at hn hu
   rw [hN]
   simp only [List.length_append, List.length_cons, hlen] at hn
   simp only [tEncl, if_neg (show ¬ (false = true) by simp), List.append_assoc, List.cons_append, Bool.false_eq_true, ↓reduceIte] at hu
   refine Chain.step (fn := f) (rs := tEncl (decide (precT b.d ≤ 1)) (toksT b)) (by omega) (by omega) (ha.expr en n ts _ (by simp at hn; omega) (by simpa [tEncl] using hu) (F2_pm h2 _)) fun us hv => ?_
   rcases prec_cases b with h | h | h
   ·rw [h] at hv hn
    exact term_done (Chain.base (hb.paren (by simp at hn; omega) (by simpa using hv))) hF
   ·rw [h] at hv hn
    exact term_done (hb.term (by omega) en n us es (by simp at hn; omega) (by simpa [tEncl] using hv) hF.1) hF
   ·rw [h.1] at hv hn
    exact term_done (hb.term (by omega) en n us es (by simp at hn; omega) (by simpa [tEncl] using hv) hF.1) hF
 ·rw [if_neg h2] at hT
  refine Back.of_term rfl fun en n ts es hn hu hF => ?_
  rw [hT] at hn hu
  rw [hN]
  simp only [List.length_append, List.length_cons, hlen] at hn
  simp only [List.append_assoc, List.cons_append] at hu
  refine Chain.step (fn := f) (rs := tEncl (decide (precT b.d ≤ 2)) (toksT b)) (by omega) (by omega) ?_ fun us hv => ?_
  ·rcases prec_cases a with h | h | h
   ·rw [h] at hu hn
    exact Chain.base (ha.paren (by simp at hn; omega) (by simpa using hu))
   ·rw [h] at hu hn
    exact ha.term (by omega) en n ts _ (by simp at hn; omega) (by simpa [tEncl] using hu) (F3_opr hf _)
   ·rw [h.1] at hu hn
    exact ha.term (by omega) en n ts _ (by simp at hn; omega) (by simpa [tEncl] using hu) (F3_opr hf _)
  ·rcases prec_cases b with h | h | h
   ·rw [h] at hv hn
    exact hb.paren (by simp at hn; omega) (by simpa using hv)
   ·rw [h] at hv hn
    exact hb.paren (by simp at hn; omega) (by simpa using hv)
   ·rw [h.1] at hv hn
    exact hb.fac h.2 en n us es (by simp at hn; omega) (by simpa [tEncl] using hv) hF
theorem back_all : ∀ t, chk t = 0 → Back t := Tree.ind fun d ks ih hc => by
 obtain ⟨h1, h2⟩ := chk_ok hc
 obtain ⟨a1, _⟩ := chk1_all h1
 rcases shape_cases a1 with hk | hk | hk | hk
 ·refine Back.of_fac fun en n ts es hn hu hf => ?_
  rw [toksT] at hn hu
  unfold tJoin at hn hu
  rw [if_pos hk.1] at hn hu
  rw [norm, if_pos hk.1]
  exact fac_number hu hn
 ·obtain ⟨hs, hg⟩ := sel_p h1 hk.1
  refine Back.of_fac fun en n ts es hn hu hf => ?_
  rw [toksT] at hn hu
  unfold tJoin at hn hu
  rw [if_neg (by omega), if_pos hk.1] at hn hu
  unfold tSel at hn hu
  simp only [List.length_cons] at hn
  obtain ⟨n, rfl⟩ : ∃ k, n = k + 1 := ⟨n - 1, by omega⟩
  simp only [List.cons_append, List.append_assoc] at hu
  obtain ⟨-, b2, -, b4, -⟩ := hd_er hu
  match ks, hk.2.1 with
  | [], _ =>
   rw [norm, if_neg (by omega)]
   rw [facM, kindT_er, hu, if_neg (by simp [kindE]), isT_er, hu, if_neg (by simp [isE]), kindT_er, hu, if_pos (by simp [kindE]), show (headT ts).text = d.name.data.toList from b2, if_neg (no_grp hg)]
   exact select_ok b4 hs hf (no_curl hf) (no_dot hf)
 ·have hs := grp_p h1 hk.1
  match ks, hk.2.1, ih, h2 with
  | [t], _, ih, h2 =>
   have hb := ih t (by simp) (h2 t (by simp))
   refine Back.of_fac fun en n ts es hn hu hf => ?_
   rw [toksT] at hn hu
   unfold tJoin at hn hu
   rw [if_neg (by omega), if_neg (by omega), if_pos hk.1] at hn hu
   unfold tGrup at hn hu
   simp only [toksL, List.headD_cons, List.length_append, List.length_cons] at hn
   simp only [toksL, List.headD_cons, List.cons_append, List.append_assoc] at hu
   obtain ⟨n, rfl⟩ : ∃ k, n = k + 1 := ⟨n - 1, by omega⟩
   obtain ⟨-, b2, -, b4, -⟩ := hd_er hu
   obtain ⟨f, hfn⟩ : ∃ f : Nat, d.fn = f := ⟨d.fn.toNat, by omega⟩
   have b2' : (headT ts).text = groupsT.getD f [] := by rw [b2, hfn]; simp
   have hix := idx_grp f (by omega)
   rw [norm, if_neg (by omega), facM, kindT_er, hu, if_neg (by simp [kindE]), isT_er, hu, if_neg (by simp [isE]), kindT_er, hu, if_pos (by simp [kindE]), b2', hix, if_pos (by omega), ← hfn]
   refine group_ok (tt := toksT t) (by simpa using b4) hs fun us hv => expr_done (hb.expr en n us _ (by omega) hv (F1_shut es).1) (F1_shut es)
 ·obtain ⟨f, hf, rfl⟩ := bin_p h1 hk.1
  match ks, hk.2.1, ih, h2 with
  | [a, b], _, ih, h2 =>
   refine back_bin (a := a) (b := b) hf (ih a (by simp) (h2 a (by simp))) (ih b (by simp) (h2 b (by simp))) ?_ rfl
   show toksT (.node (binT f (numT 0) (numT 0)).d [a, b]) = _
   rw [toksT]
   unfold tJoin
   have k3 : (binT f (numT 0) (numT 0)).d.kind = 3 := rfl
   rw [if_neg (by rw [k3]; omega), if_neg (by rw [k3]; omega), if_neg (by rw [k3]; omega)]
   simp only [List.map_cons, List.map_nil, toksL]
   rw [precT_bin f _ _ hf]
   rfl
end
end Go.Proofs.YtkdojgkiclndfaaGreatDoor
