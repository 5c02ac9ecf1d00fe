/- Contracts, packed: Ut. -/
import Derived.Test.YtpgdijbfkahepaaGreatDoorPd40
import Derived.Test.YtpgdijbfkahepaaGreatDoorPd43
import Derived.Deep.AppendLies
set_option linter.unusedVariables false
set_option linter.unusedSimpArgs false
namespace Go.Proofs.YtpgdijbfkahepaaGreatDoor
section
open Go.RowKit Go.Shelf FracM
attribute [local go_sem] Oper.semAt_some
theorem SeqP.belo {w w' : World} {P : Nat → Nat → Prop} {size n : Nat} {v : Value} {xs : List Value} (h : SeqP w P size v n xs) (f : Below w.heap.size w w') : SeqP w' P size v n xs := h.keep (Agree.of_below f)
abbrev At11z (W : World) (g : Nat) (d : Nd) (mv bv kv : Value) : Prop := W.cell? ⟨g, 0, none⟩ = some (.int .i64 d.kind) ∧ W.cell? ⟨g, 1, none⟩ = some (.int .i64 d.fn) ∧ W.cell? ⟨g, 2, none⟩ = some (.int .i64 d.win) ∧ W.cell? ⟨g, 3, none⟩ = some (.int .i64 d.off) ∧ W.cell? ⟨g, 4, none⟩ = some (.int .i64 d.k) ∧ W.cell? ⟨g, 5, none⟩ = some (.int .i64 d.num) ∧ W.cell? ⟨g, 6, none⟩ = some (.int .i64 d.den) ∧ W.cell? ⟨g, 7, none⟩ = some (.string d.name) ∧ W.cell? ⟨g, 8, none⟩ = some mv ∧ W.cell? ⟨g, 9, none⟩ = some bv ∧ W.cell? ⟨g, 10, none⟩ = some kv
theorem at11_sub {w w' : World} {g : Nat} {d : Nd} {m1 m2 m3 : Value} (h : At11z w g d m1 m2 m3) (hc : ∀ o, w'.cell? ⟨g, o, none⟩ = w.cell? ⟨g, o, none⟩) : At11z w' g d m1 m2 m3 :=
 ⟨(hc _).trans h.1, (hc _).trans h.2.1, (hc _).trans h.2.2.1, (hc _).trans h.2.2.2.1, (hc _).trans h.2.2.2.2.1, (hc _).trans h.2.2.2.2.2.1, (hc _).trans h.2.2.2.2.2.2.1, (hc _).trans h.2.2.2.2.2.2.2.1, (hc _).trans h.2.2.2.2.2.2.2.2.1, (hc _).trans h.2.2.2.2.2.2.2.2.2.1, (hc _).trans h.2.2.2.2.2.2.2.2.2.2⟩
theorem at11_keep {w0 w' : World} {g B : Nat} {d : Nd} {m1 m2 m3 : Value} (h : At11z w0.drew g d m1 m2 m3) (hb : Below B w0 w') (hg : g < B) : At11z w' g d m1 m2 m3 := at11_sub h fun o => hb.cell (p := ⟨g, o, none⟩) hg
theorem at11_far {W w' : World} {g : Nat} {Q : Nat → Prop} {d : Nd} {m1 m2 m3 : Value} (h : At11z W.drew g d m1 m2 m3) (hf : ∀ k, Q k → w'.heap[k]? = W.heap[k]?) (hg : Q g) : At11z w' g d m1 m2 m3 := at11_sub h fun o => World.cell?_of_block (a := ⟨g, o, none⟩) (hf g hg)
/-- a plan in a row of its own; its instructions' rows lie in X, and not in that row -/
def PlC (w : World) (B : Nat) (X : Nat → Prop) (v : Value) (l : List Nd) : Prop :=
 ∃ cs : List Sl2, w.ownsRow B 55 10 v l.length ((l.zip cs).flatMap insL) ∧ InsRows w (fun b _ => X b ∧ v.ownBlock ≠ some b) l cs
/-- between two rounds of Compile -/
structure CpI (w0 : World) (pb : Nat) (v : Value) (Pr : Nat → Prop) (pre : List (Nd × Sl)) (A : World) : Prop where
 below : Below w0.heap.size w0 A
 p : Blk A pb 25 #[v]
 pl : PlC A (pb + 1) (fun b => w0.heap.size ≤ b ∧ b ≠ pb) v (pre.map (·.1))
 pr : ∀ k, Pr k → k < A.heap.size ∧ k ≠ pb ∧ v.ownBlock ≠ some k
 hpb : w0.heap.size < pb
theorem blk_bq {n : Nat} {A B : World} {g t : Nat} {cs : Array Value} (h : Blk A g t cs) (f : Bq n A B) : Blk B g t cs := f.cells _ _ h rfl
theorem CpI.bq {w0 A B : World} {n pb : Nat} {v : Value} {Pr Pr' : Nat → Prop} {pre : List (Nd × Sl)} (h : CpI w0 pb v Pr pre A) (f : Bq n A B) (hn : w0.heap.size ≤ n) (hp : ∀ k, Pr' k → Pr k ∨ (A.heap.size ≤ k ∧ k < B.heap.size)) : CpI w0 pb v Pr' pre B := by
 obtain ⟨cs, h1, h2⟩ := h.pl
 refine ⟨⟨f.os.trans h.below.os, f.tape.trans h.below.tape, f.output.trans h.below.output, Nat.le_trans h.below.size f.size, fun k hk => (f.low k (by omega)).trans (h.below.block k hk)⟩, blk_bq h.p f, ⟨cs, own_cells h1 fun i o _ ho hc => f.cells i o ho hc, h2.1, fun i d c a b => (h2.2 i d c a b).bq f⟩, fun k hk => ?_, h.hpb⟩
 have := h.p.lt
 have hs := f.size
 rcases hp k hk with h3 | h3
 ·have := h.pr k h3
  exact ⟨by omega, this.2.1, this.2.2⟩
 ·exact ⟨h3.2, by omega, fun he => by have := (own_bk h1 k he).2; omega⟩
theorem keeps_below {W W' : World} (h : Below W.heap.size W W') : KeepsOthers W W' := ⟨h.size, fun k o ho _ => (h.block k (Array.getElem?_eq_some_iff.1 ho).1).trans ho⟩
theorem cp_app {w0 W W8 W9 : World} {pb g cap n : Nat} {v : Value} {Pr : Nat → Prop} {pre : List (Nd × Sl)} {x : Nd × Sl} {mv bv : Value} {cs : List Sl2} {o : Obj} (h : CpI w0 pb v Pr pre W)
  (hown0 : W.ownsRow (pb + 1) 55 10 v n (((pre.map (·.1)).zip cs).flatMap insL)) (hrow : InsRows W (fun b _ => (w0.heap.size ≤ b ∧ b ≠ pb) ∧ v.ownBlock ≠ some b) (pre.map (·.1)) cs)
  (hb : Below W.heap.size W W8) (hi : InsAt W8 (fun b _ => W.heap.size ≤ b) x.1 mv bv)
  (hown : W9.ownsRow (pb + 1) 55 10 (.slice (some ⟨g, 0, none⟩) (n + 1) cap) (n + 1) (((pre.map (·.1)).zip cs).flatMap insL ++ insL (x.1, mv, bv))) (hg : (W8.alloc o).grownBy W9 v.ownBlock) (hat : v.ownBlock = some g ∨ g = W8.heap.size + 1) (hn : n = (pre.map (·.1)).length) :
  CpI w0 pb (.slice (some ⟨g, 0, none⟩) (n + 1) cap) Pr (pre ++ [x]) (W9.setCell ⟨pb, 0, none⟩ (.slice (some ⟨g, 0, none⟩) (n + 1) cap)) ∧ KeepsOthers W (W9.setCell ⟨pb, 0, none⟩ (.slice (some ⟨g, 0, none⟩) (n + 1) cap)) ∧ (∀ k, Pr k → (W9.setCell ⟨pb, 0, none⟩ (.slice (some ⟨g, 0, none⟩) (n + 1) cap)).heap[k]? = W.heap[k]?) ∧
  W9.cell? ⟨pb, 0, none⟩ = some v ∧ W9.frozen? ⟨pb, 0, none⟩ = false ∧ (∀ k, (k < W.heap.size ∧ v.ownBlock ≠ some k) → W9.heap[k]? = W.heap[k]?) := by
 have hpl := h.p.lt
 have h0 := h.below.size
 have hpb := h.hpb
 have hz8 := hb.size
 have hz9 : W8.heap.size + 1 ≤ W9.heap.size := by have := hg.size; simpa using this
 have hb8 : Below W.heap.size W (W8.alloc o) := hb.alloc hb.size _
 have same : ∀ k, k < W8.heap.size + 1 → v.ownBlock ≠ some k → W9.heap[k]? = (W8.alloc o).heap[k]? := fun k hk hne => hg.block k (by simp; omega) (fun e => hne e.symm)
 have same0 : ∀ k, k < W.heap.size → v.ownBlock ≠ some k → W9.heap[k]? = W.heap[k]? := fun k hk hne => (same k (by omega) hne).trans (hb8.block k hk)
 have ownge : ∀ k, v.ownBlock = some k → pb + 1 ≤ k ∧ k < W.heap.size := own_bk hown0
 have hgge : pb + 1 ≤ g := by
  rcases hat with e | e
  ·exact (ownge g e).1
  ·omega
 have hp9 : Blk W9 pb 25 #[v] := (same0 pb hpl (fun e => by have := (ownge pb e).1; omega)).trans h.p
 have hset : ∀ k, k ≠ pb → (W9.setCell ⟨pb, 0, none⟩ (.slice (some ⟨g, 0, none⟩) (n + 1) cap)).heap[k]? = W9.heap[k]? := fun k hk => Below.heap_setCell W9 ⟨pb, 0, none⟩ _ k hk
 have hsz : (W9.setCell ⟨pb, 0, none⟩ (.slice (some ⟨g, 0, none⟩) (n + 1) cap)).heap.size = W9.heap.size := by simp [World.setCell]
 have hbel : Below w0.heap.size w0 W9 := ⟨hg.os.trans (hb8.os.trans h.below.os), hg.tape.trans (hb8.tape.trans h.below.tape), hg.output.trans (hb8.output.trans h.below.output), by omega, fun k hk => (same0 k (by omega) (fun e => by have := (ownge k e).1; omega)).trans (h.below.block k hk)⟩
 refine ⟨⟨hbel.setCell (p := ⟨pb, 0, none⟩) (by show w0.heap.size ≤ pb; omega) _, by simpa using hp9.set 0 (.slice (some ⟨g, 0, none⟩) (n + 1) cap), ?_, fun k hk => ?_, hpb⟩, ?_, fun k hk => ?_, hp9.c1, hp9.frozen 0, fun k hk => same0 k hk.1 hk.2⟩
 ·refine ⟨cs ++ [(mv, bv)], ?_, ?_⟩
  ·have h5 := own_only hown (Only.setCell (g := pb) 0 (.slice (some ⟨g, 0, none⟩) (n + 1) cap)) (by omega)
   rw [List.map_append, List.map_cons, List.map_nil, zip_snoc _ _ _ _ hrow.1, List.length_append]
   subst hn
   exact h5
  ·have agr : Agree (fun b _ => ((w0.heap.size ≤ b ∧ b ≠ pb) ∧ v.ownBlock ≠ some b) ∧ b < W8.heap.size) W8 (W9.setCell ⟨pb, 0, none⟩ (.slice (some ⟨g, 0, none⟩) (n + 1) cap)) := ⟨by rw [hsz]; omega, fun b _ o' hp hbl _ => World.cell?_of_block (a := ⟨b, o', none⟩) ((hset b hp.1.1.2).trans ((same b (by omega) hp.1.2).trans (Below.heap_alloc W8 o b hbl)))⟩
   have r1 : InsRows W8 (fun b _ => ((w0.heap.size ≤ b ∧ b ≠ pb) ∧ v.ownBlock ≠ some b) ∧ b < W8.heap.size) (pre.map (·.1)) cs := (hrow.keep (Agree.of_below hb)).mono fun b _ hbl hp => ⟨hp, hbl⟩
   have r2 : InsAt W8 (fun b _ => ((w0.heap.size ≤ b ∧ b ≠ pb) ∧ v.ownBlock ≠ some b) ∧ b < W8.heap.size) x.1 mv bv := hi.mono fun b _ hbl hp => ⟨⟨⟨by omega, by omega⟩, fun e => by have := (ownge b e).2; omega⟩, hbl⟩
   rw [List.map_append, List.map_cons, List.map_nil]
   refine ((r1.snoc r2).keep agr).mono fun b _ _ hp => ⟨hp.1.1, fun e => ?_⟩
   simp only [Value.ownBlock, Option.some.injEq] at e
   subst e
   rcases hat with e | e
   ·exact hp.1.2 e
   ·have := hp.2; omega
 ·have := h.pr k hk
  refine ⟨by rw [hsz]; omega, this.2.1, fun e => ?_⟩
  simp only [Value.ownBlock, Option.some.injEq] at e
  subst e
  rcases hat with e | e
  ·exact this.2.2 e
  ·omega
 ·refine ((keeps_below hb8).trans (KeepsOthers.of_grownBy hg fun j u hj hu => ?_)).trans (KeepsOthers.setCell _ _ _)
  rcases hown0.2 with ⟨rfl, _⟩ | ⟨g', cap', cur, rfl, _, hh, _⟩
  ·simp [Value.ownBlock] at hj
  ·simp [Value.ownBlock] at hj; subst hj
   rw [hb8.block _ (Array.getElem?_eq_some_iff.1 hh).1, hh] at hu
   cases hu; rfl
 ·have := h.pr k hk
  exact (hset k this.2.1).trans (same0 k this.1 this.2.2)
/-- a plan in fresh rows, with the error -/
def RetPlF (p : List Nd × Int) (w : World) (e : Ending) (w' : World) : Prop := ∃ v, e = .returned (.tuple #[v, .int .i64 p.2]) ∧ PlW w' w.heap.size (fun b _ => w.heap.size ≤ b) v p.1 ∧ Below w.heap.size w w'
theorem blk_ne_ty {w : World} {g g' t t' : Nat} {cs cs' : Array Value} (h : Blk w g t cs) (h' : Blk w g' t' cs') (hne : t ≠ t') : g ≠ g' := by
 rintro rfl
 unfold Blk at h h'
 rw [h] at h'
 injection h' with h'
 injection h' with _ ht
 exact hne ht
theorem own_ne_ty {w : World} {B e size n g t : Nat} {v : Value} {xs : List Value} {cs : Array Value} (h : w.ownsRow B e size v n xs) (h' : Blk w g t cs) (hne : e ≠ t) : v.ownBlock ≠ some g := by
 rcases h.2 with ⟨rfl, _⟩ | ⟨g', cap, cur, rfl, _, hh, _⟩
 ·simp [Value.ownBlock]
 ·intro he
  have : g' = g := by simpa [Value.ownBlock] using he
  subst this
  exact blk_ne_ty (t := e) hh h' hne rfl
theorem postT_small {t : Tree} (h : validE t = 0) : (postT t).length ≤ 200 ∧ ∀ d ∈ postT t, d.ms.length ≤ 8 ∧ d.bys.length ≤ 8 := by
 have h1 : nds t ≤ 200 := by
  unfold validE at h
  by_cases hf : fitB t = false
  ·rw [if_pos hf] at h; cases h
  ·have : fitB t = true := by simpa using hf
   unfold fitB at this
   simp only [Bool.and_eq_true, decide_eq_true_eq] at this
   exact this.1
 refine ⟨by rw [postT_len]; exact h1, fun d hd => ?_⟩
 obtain ⟨n, hn⟩ := post_chk1 t (validE_chk h) d hd
 unfold chk1 at hn
 split at hn
 ·cases hn
 split at hn
 ·cases hn
 split at hn
 ·cases hn
 ·omega
set_option maxHeartbeats 4000000 in
set_option maxRecDepth 100000 in
theorem pcompile_no (t : Tree) (P : Nat → Nat → Prop) (w : World) (s : Sl) (hT : TreeAt w P t s) (hw : WordsG w) (hv : validE t ≠ 0) : Calls Tryz.prog 24 #[.agg (ndC t.d s.1 s.2.1 s.2.2)] w (RetPlF (compileM t) w) := by
 obtain ⟨d, ks⟩ := t
 obtain ⟨mv, bv, kv⟩ := s
 obtain ⟨A1, c1, rfl, -⟩ := hT.nod.ms.form
 obtain ⟨A2, c2, rfl, -⟩ := hT.nod.bys.form
 obtain ⟨A3, c3, rfl, -⟩ := hT.nod.kform
 obtain ⟨er, her⟩ : ∃ er, validE (.node d ks) = er := ⟨_, rfl⟩
 have HS0 : Box (Below w.heap.size w (w.alloc (.cells (ndC d (.slice A1 d.ms.length c1) (.slice A2 d.bys.length c2) (.slice A3 ks.length c3)) 35)) ∧ Blk (w.alloc (.cells (ndC d (.slice A1 d.ms.length c1) (.slice A2 d.bys.length c2) (.slice A3 ks.length c3)) 35)) w.heap.size 35 (ndC d (.slice A1 d.ms.length c1) (.slice A2 d.bys.length c2) (.slice A3 ks.length c3)) ∧ TreeAt (w.alloc (.cells (ndC d (.slice A1 d.ms.length c1) (.slice A2 d.bys.length c2) (.slice A3 ks.length c3)) 35)) (fun b _ => b < w.heap.size) (.node d ks) (.slice A1 d.ms.length c1, .slice A2 d.bys.length c2, .slice A3 ks.length c3)) := ⟨bel1 _ _, Blk.new _ _ _, hT.low.belo (bel1 _ _)⟩
 have HC : Box (compileM (.node d ks) = ([], er)) := ⟨by rw [compileM_no hv, her]⟩
 have h0 : er ≠ 0 := by rw [← her]; exact hv
 have h1 : (er != 0) = true := by simpa using h0
 have h2 : (er == 0) = false := by simpa using h0
 have HE := Box.mk her
 have HW := Box.mk (hw.below (bel1 w (.cells (ndC d (.slice A1 d.ms.length c1) (.slice A2 d.bys.length c2) (.slice A3 ks.length c3)) 35)))
 clear hT hv hw her h0
 simp only [Tree.d]
 refine (callsIn_wide (n := 5)).1 (callsIn_of_wp_marks Tryz.func24 rfl trivial ?_ rfl)
 simp only [Tryz.ntmps24, List.size_toArray, List.length_cons, List.length_nil, Nat.reduceAdd, Nat.reduceSub, Array.replicate_succ, Array.replicate_zero, List.push_toArray, List.append_toArray, List.nil_append, List.cons_append]
 gi_upto_region 1 with (fail)
 generalize w.alloc (.cells (ndC d _ _ _) 35) = W at HS0 HW ⊢
 obtain ⟨k0, k1, k2, k3, k4, k5, k6, k7, k8, k9, k10⟩ := blk11z HS0.out.2.1
 have CV : Box (CallsIn Fence.wide 4 Tryz.prog 43 #[.agg (ndC d (.slice A1 d.ms.length c1) (.slice A2 d.bys.length c2) (.slice A3 ks.length c3))] W (RetB (.int .i64 er) W)) := ⟨callsIn_wide.2 (by rw [← HE.out]; exact pvalid_any (.node d ks) _ W (.slice A1 d.ms.length c1, .slice A2 d.bys.length c2, .slice A3 ks.length c3) HS0.out.2.2 HW.out)⟩
 gi_wp2_with (fail)
 refine ⟨trivial, CV.out.mono ?_⟩
 rintro e1 w1 ⟨rfl, hb1⟩
 have HB1 : Box (Below w.heap.size w w1) := ⟨bthen HS0.out.1 hb1 (Nat.le_refl _)⟩
 clear k0 k1 k2 k3 k4 k5 k6 k7 k8 k9 k10 CV hb1 HS0
 gi_wp2_with (fail)
 exact ⟨_, results_tmp2 rfl _ _ _, .slice none 0 0, by rw [HC.out]; rfl, by rw [HC.out]; exact PlW.nil _ _ _, HB1.out⟩
set_option maxHeartbeats 8000000 in
set_option maxRecDepth 100000 in
theorem pcompile_ok (t : Tree) (P : Nat → Nat → Prop) (w : World) (s : Sl) (hT : TreeAt w P t s) (hw : WordsG w) (hv : validE t = 0) : Calls Tryz.prog 24 #[.agg (ndC t.d s.1 s.2.1 s.2.2)] w (RetPlF (compileM t) w) := by
 obtain ⟨d, ks⟩ := t
 obtain ⟨mv, bv, kv⟩ := s
 obtain ⟨A1, c1, rfl, -⟩ := hT.nod.ms.form
 obtain ⟨A2, c2, rfl, -⟩ := hT.nod.bys.form
 obtain ⟨A3, c3, rfl, -⟩ := hT.nod.kform
 have HS0 : Box (Below w.heap.size w (w.alloc (.cells (ndC d (.slice A1 d.ms.length c1) (.slice A2 d.bys.length c2) (.slice A3 ks.length c3)) 35)) ∧ Blk (w.alloc (.cells (ndC d (.slice A1 d.ms.length c1) (.slice A2 d.bys.length c2) (.slice A3 ks.length c3)) 35)) w.heap.size 35 (ndC d (.slice A1 d.ms.length c1) (.slice A2 d.bys.length c2) (.slice A3 ks.length c3)) ∧ TreeAt (w.alloc (.cells (ndC d (.slice A1 d.ms.length c1) (.slice A2 d.bys.length c2) (.slice A3 ks.length c3)) 35)) (fun b _ => b < w.heap.size) (.node d ks) (.slice A1 d.ms.length c1, .slice A2 d.bys.length c2, .slice A3 ks.length c3)) := ⟨bel1 _ _, Blk.new _ _ _, hT.low.belo (bel1 _ _)⟩
 have HV := Box.mk hv
 have HSMALL := Box.mk (postT_small hv)
 have HW := Box.mk (hw.below (bel1 w (.cells (ndC d (.slice A1 d.ms.length c1) (.slice A2 d.bys.length c2) (.slice A3 ks.length c3)) 35)))
 obtain ⟨i0, hi, hz0, hz1, hz2⟩ := info_parts insInfo
 have HJ := Box.mk (And.intro hi (And.intro hz0 (And.intro hz1 hz2)))
 clear hT hv hw hi hz0 hz1 hz2
 simp only [Tree.d]
 have hn5 : 1 ≤ 5 := by omega
 refine (callsIn_wide (n := 5)).1 (callsIn_of_wp_marks Tryz.func24 rfl trivial ?_ rfl)
 simp only [Tryz.ntmps24, List.size_toArray, List.length_cons, List.length_nil, Nat.reduceAdd, Nat.reduceSub, Array.replicate_succ, Array.replicate_zero, List.push_toArray, List.append_toArray, List.nil_append, List.cons_append]
 gi_upto_region 1 with (fail)
 generalize w.alloc (.cells (ndC d _ _ _) 35) = W at HS0 HW ⊢
 obtain ⟨k0, k1, k2, k3, k4, k5, k6, k7, k8, k9, k10⟩ := blk11z HS0.out.2.1
 have CV : Box (CallsIn Fence.wide 4 Tryz.prog 43 #[.agg (ndC d (.slice A1 d.ms.length c1) (.slice A2 d.bys.length c2) (.slice A3 ks.length c3))] W (RetB (.int .i64 0) W)) := ⟨callsIn_wide.2 (by rw [← HV.out]; exact pvalid_any (.node d ks) _ W (.slice A1 d.ms.length c1, .slice A2 d.bys.length c2, .slice A3 ks.length c3) HS0.out.2.2 HW.out)⟩
 gi_wp2_with (fail)
 refine ⟨trivial, CV.out.mono ?_⟩
 rintro e1 w1 ⟨rfl, hb1⟩
 have HS1 : Box (Below w.heap.size w w1 ∧ Blk w1 w.heap.size 35 (ndC d (.slice A1 d.ms.length c1) (.slice A2 d.bys.length c2) (.slice A3 ks.length c3)) ∧ TreeAt w1 (fun b _ => b < w.heap.size) (.node d ks) (.slice A1 d.ms.length c1, .slice A2 d.bys.length c2, .slice A3 ks.length c3)) := ⟨bthen HS0.out.1 hb1 (Nat.le_refl _), HS0.out.2.1.below hb1, HS0.out.2.2.belo hb1⟩
 clear k0 k1 k2 k3 k4 k5 k6 k7 k8 k9 k10 CV hb1 HS0
 obtain ⟨k0, k1, k2, k3, k4, k5, k6, k7, k8, k9, k10⟩ := blk11z (HS1.out.2.1.alloc (.cells #[.slice none 0 0] 25))
 have CP : Box (CallsIn Fence.wide 4 Tryz.prog 44 #[.agg (ndC d (.slice A1 d.ms.length c1) (.slice A2 d.bys.length c2) (.slice A3 ks.length c3))] (w1.alloc (.cells #[.slice none 0 0] 25)) fun e w' => e = .returned (.func (.func 63) #[] #[.pointer (some ⟨(w1.alloc (.cells #[.slice none 0 0] 25)).heap.size, 0, none⟩)]) ∧ w' = (w1.alloc (.cells #[.slice none 0 0] 25)).alloc (.cells (ndC d (.slice A1 d.ms.length c1) (.slice A2 d.bys.length c2) (.slice A3 ks.length c3)) 35)) := ⟨callsIn_wide.2 (ppostfix_any d _ _ _ _ (by intro u hu; simp at hu; rcases hu with rfl | rfl | rfl <;> rfl))⟩
 gi_wp2_with (fail)
 refine ⟨trivial, CP.out.mono ?_⟩
 rintro e1 w2 ⟨rfl, rfl⟩
 clear k0 k1 k2 k3 k4 k5 k6 k7 k8 k9 k10 CP
 gi_wp2_with (fail)
 have H2 : Box (CpI w w1.heap.size (.slice none 0 0) (fun k => k < w1.heap.size + 2 ∧ k ≠ w1.heap.size) [] ((w1.alloc (.cells #[.slice none 0 0] 25)).alloc (.cells (ndC d (.slice A1 d.ms.length c1) (.slice A2 d.bys.length c2) (.slice A3 ks.length c3)) 35)) ∧ Blk ((w1.alloc (.cells #[.slice none 0 0] 25)).alloc (.cells (ndC d (.slice A1 d.ms.length c1) (.slice A2 d.bys.length c2) (.slice A3 ks.length c3)) 35)) (w1.heap.size + 1) 35 (ndC d (.slice A1 d.ms.length c1) (.slice A2 d.bys.length c2) (.slice A3 ks.length c3)) ∧ TreeAt ((w1.alloc (.cells #[.slice none 0 0] 25)).alloc (.cells (ndC d (.slice A1 d.ms.length c1) (.slice A2 d.bys.length c2) (.slice A3 ks.length c3)) 35)) (fun b _ => b < w.heap.size) (.node d ks) (.slice A1 d.ms.length c1, .slice A2 d.bys.length c2, .slice A3 ks.length c3) ∧ w.heap.size < w1.heap.size) :=
  ⟨⟨bthen HS1.out.1 (bel2 _ _ _) (Nat.le_refl _), (Blk.new _ _ _).alloc _, ⟨[], World.ownsRow_nil _ _ _ _, InsRows.nil _ _⟩, fun k hk => ⟨by simp; omega, hk.2, by simp [Value.ownBlock]⟩, HS1.out.2.1.lt⟩, Blk.newAt _ _ (by simp), HS1.out.2.2.belo (bel2 _ _ _), HS1.out.2.1.lt⟩
 have hz2 : ((w1.alloc (.cells #[.slice none 0 0] 25)).alloc (.cells (ndC d (.slice A1 d.ms.length c1) (.slice A2 d.bys.length c2) (.slice A3 ks.length c3)) 35)).heap.size = w1.heap.size + 2 := by simp
 generalize (w1.alloc (.cells #[.slice none 0 0] 25)).alloc (.cells (ndC d (.slice A1 d.ms.length c1) (.slice A2 d.bys.length c2) (.slice A3 ks.length c3)) 35) = W2 at H2 hz2 ⊢
 obtain ⟨pb, hpb⟩ : ∃ g, w1.heap.size = g := ⟨_, rfl⟩
 rw [hpb] at H2 hz2 ⊢
 clear hpb HS1
 have hwpb := H2.out.2.2.2
 refine range_pr (F := Fence.wide) rfl hn5 (gf := 63) (fs := #[]) (lb := #[.pointer (some ⟨pb + 1, 0, none⟩)]) rfl trivial (enters_of Tryz.func63 (by kernel_rfl) rfl)
  (fun x : Nd × Sl => #[.agg (ndC x.1 x.2.1 x.2.2.1 x.2.2.2)]) (fun _ => rfl) (fun Pr pre A => ∃ v, CpI w pb v Pr pre A) (fun xs => xs.map (·.1) = postT (.node d ks))
  (fun Pr x A => (InsAt A (fun b _ => Pr b) x.1 x.2.1 x.2.2.1 ∧ ∃ B n c, x.2.2.2 = .slice B n c)) (fun pre x => (pre.map (·.1) ++ [x.1]) <+: postT (.node d ks)) (fun k => k < pb + 2 ∧ k ≠ pb) (fun k hk => by rw [hz2]; exact hk.1)
  ?it ?okq ⟨_, H2.out.1⟩ (fun x => .cells (ndC x.1 x.2.1 x.2.2.1 x.2.2.2) 35) (fun _ => rfl)
  (fun x tb => { tmps := #[.agg (ndC d (.slice A1 d.ms.length c1) (.slice A2 d.bys.length c2) (.slice A3 ks.length c3)), .pointer (some ⟨w.heap.size, 0, none⟩), .slice none 0 0, .int .i64 0, .int .i64 0, .pointer (some ⟨pb, 0, none⟩), .pointer (some ⟨tb, 0, none⟩), .agg (ndC d (.slice A1 d.ms.length c1) (.slice A2 d.bys.length c2) (.slice A3 ks.length c3)), .int .i64 0, .int .i64 0, .bool false, undef, .agg (ndC d (.slice A1 d.ms.length c1) (.slice A2 d.bys.length c2) (.slice A3 ks.length c3)), .func (.func 63) #[] #[.pointer (some ⟨pb + 1, 0, none⟩)], .agg (ndC x.1 x.2.1 x.2.2.1 x.2.2.2), undef, undef, undef, undef, undef, undef, undef, undef, undef, undef, undef, undef, undef, undef, undef, undef, undef, undef, undef, undef, undef, undef, undef, undef, undef], defers := [] })
  ?seq ?assign ?body ?il ?done
 case it => rintro Pr Pr' s A B ⟨v, h⟩ f hp; exact ⟨v, h.bq f (by rw [hz2]; omega) hp⟩
 case okq => rintro Pr x A B ⟨h1, h2⟩ f; exact ⟨h1.bq f, h2⟩
 case seq =>
  intro l J W hB hT hL hY hJ
  obtain ⟨cs, -⟩ := H2.out.1.pl
  have h := p1_in (postT (.node d ks)) l J hT hL (fun m Pr pre x W1 h1 h2 h3 hj => hY m Pr pre x W1 ⟨h1, h2⟩ h3 hj) (.node d ks) 4 (fun k => k < pb + 2 ∧ k ≠ pb) [] W (pb + 1) (.slice A1 d.ms.length c1, .slice A2 d.bys.length c2, .slice A3 ks.length c3) ((H2.out.2.2.1.belo hB).mono fun b _ _ h => ⟨by omega, by omega⟩) (H2.out.2.1.below hB) hJ (by simp)
  exact h.mono fun e W' ⟨he, xs, hx, hj⟩ => ⟨he, xs, hx, hj⟩
 case assign =>
  rintro l m Pr ⟨xd, x1, x2, x3⟩ W K ⟨hok, X3, m3, x3c, rfl⟩ hK
  have hok1 : InsAt W (fun b _ => Pr b) xd x1 x2 := hok
  clear hok
  obtain ⟨X1, x1c, rfl, -⟩ := hok1.ms.form
  obtain ⟨X2, x2c, rfl, -⟩ := hok1.bys.form
  clear hok1
  gi_wp2
  exact hK
 case il => rintro Pr s A ⟨v, h⟩ k hk; exact (h.pr k hk).1
 case body =>
  rintro l m Pr pre ⟨xd, mvx, bvx, kvx⟩ W tb ⟨hok, X3, m3, x3, rfl⟩ hpx ⟨v, hi⟩ hsz hntb htb
  have hok1 : InsAt W (fun b _ => Pr b) xd mvx bvx := hok
  clear hok
  obtain ⟨X1, x1, rfl, -⟩ := hok1.ms.form
  obtain ⟨X2, x2, rfl, -⟩ := hok1.bys.form
  have hplen : pre.length + 1 ≤ 200 := by
   have h := hpx.length_le
   simp only [List.length_append, List.length_map, List.length_cons, List.length_nil] at h
   have := HSMALL.out.1
   omega
  have hmem := HSMALL.out.2 xd (hpx.subset (by simp))
  have HSM : Box (xd.ms.length ≤ 1000000 ∧ xd.bys.length ≤ 1000000) := ⟨by omega, by omega⟩
  obtain ⟨cs, hown, hrow⟩ := hi.pl
  rw [List.length_map] at hown
  obtain ⟨A8, a8, rfl⟩ := own_form hown
  have htb' : Blk W tb 35 (ndC xd (.slice X1 xd.ms.length x1) (.slice X2 xd.bys.length x2) (.slice X3 m3 x3)) := htb
  have hne1 : tb ≠ pb := blk_ne_ty htb' hi.p (by decide)
  have HTB : Box (tb < W.heap.size ∧ (Value.slice A8 pre.length a8).ownBlock ≠ some tb) := ⟨htb'.lt, own_ne_ty hown htb' (by decide)⟩
  have HLT : Box (tb < W.heap.size ∧ pb < W.heap.size) := ⟨htb'.lt, hi.p.lt⟩
  have HOW := Box.mk (And.intro hown hrow)
  have HOK := Box.mk (And.intro hok1 True.intro)
  have HI := Box.mk hi
  have HK : Box ((W.drew.cell? ⟨tb, 0, none⟩ = some (.int .i64 xd.kind) ∧ W.drew.cell? ⟨tb, 1, none⟩ = some (.int .i64 xd.fn) ∧ W.drew.cell? ⟨tb, 2, none⟩ = some (.int .i64 xd.win) ∧ W.drew.cell? ⟨tb, 3, none⟩ = some (.int .i64 xd.off) ∧ W.drew.cell? ⟨tb, 4, none⟩ = some (.int .i64 xd.k) ∧ W.drew.cell? ⟨tb, 5, none⟩ = some (.int .i64 xd.num) ∧ W.drew.cell? ⟨tb, 6, none⟩ = some (.int .i64 xd.den) ∧ W.drew.cell? ⟨tb, 7, none⟩ = some (.string xd.name) ∧ W.drew.cell? ⟨tb, 8, none⟩ = some (.slice X1 xd.ms.length x1) ∧ W.drew.cell? ⟨tb, 9, none⟩ = some (.slice X2 xd.bys.length x2) ∧ W.drew.cell? ⟨tb, 10, none⟩ = some (.slice X3 m3 x3)) ∧ W.drew.cell? ⟨pb, 0, none⟩ = some (.slice A8 pre.length a8)) := ⟨blk11z (W := W.drew) (d := xd) htb', hi.p.c1⟩
  clear hok1 hpx hmem hown hrow htb' htb hi hne1 hntb hsz
  gi_wp2_with (fail)
  refine wpIn_region_T (S := (fun w' : World => (w'.cell? ⟨tb, 0, none⟩ = some (.int .i64 xd.kind) ∧ w'.cell? ⟨tb, 1, none⟩ = some (.int .i64 xd.fn) ∧ w'.cell? ⟨tb, 2, none⟩ = some (.int .i64 xd.win) ∧ w'.cell? ⟨tb, 3, none⟩ = some (.int .i64 xd.off) ∧ w'.cell? ⟨tb, 4, none⟩ = some (.int .i64 xd.k) ∧ w'.cell? ⟨tb, 5, none⟩ = some (.int .i64 xd.num) ∧ w'.cell? ⟨tb, 6, none⟩ = some (.int .i64 xd.den) ∧ w'.cell? ⟨tb, 7, none⟩ = some (.string xd.name) ∧ w'.cell? ⟨tb, 8, none⟩ = some (.slice X1 xd.ms.length x1) ∧ w'.cell? ⟨tb, 9, none⟩ = some (.slice X2 xd.bys.length x2) ∧ w'.cell? ⟨tb, 10, none⟩ = some (.slice X3 m3 x3)) ∧ w'.cell? ⟨pb, 0, none⟩ = some (.slice A8 pre.length a8))) 24 (by kernel_rfl) (by rintro ⟨a', w', h⟩; exact absurd h.1 (by simp)) (by kernel_rfl) (by exact HK.out) (fun hHeld => ?_)
  refine wpAnyT_take (i := 0) (v := ?_) rfl (by kernel_rfl) (by kernel_rfl) (by kernel_rfl) (fun _ _ _ h => h) (by kernel_rfl) (by decide) (Or.inl ⟨by rfl, ?_⟩) (by assumption) ?_
  rotate_left
  ·(intro wq hSw; (try dsimp only at hSw); obtain ⟨⟨hS0, hS1, hS2, hS3, hS4, hS5, hS6, hS7, hS8, hS9, hS10⟩, hS11⟩ := hSw; go_simp)
   all_goals with_reducible rfl
  (try simp only [List.getElem_toArray, List.getElem_cons_zero, List.getElem_cons_succ, Act.put, List.setIfInBounds_toArray, List.set_cons_zero, List.set_cons_succ])
  refine wpAnyT_take (i := 1) (v := ?_) rfl (by kernel_rfl) (by kernel_rfl) (by kernel_rfl) (fun _ _ _ h => h) (by kernel_rfl) (by decide) (Or.inl ⟨by rfl, ?_⟩) (by assumption) ?_
  rotate_left
  ·(intro wq hSw; (try dsimp only at hSw); obtain ⟨⟨hS0, hS1, hS2, hS3, hS4, hS5, hS6, hS7, hS8, hS9, hS10⟩, hS11⟩ := hSw; go_simp)
   all_goals with_reducible rfl
  (try simp only [List.getElem_toArray, List.getElem_cons_zero, List.getElem_cons_succ, Act.put, List.setIfInBounds_toArray, List.set_cons_zero, List.set_cons_succ])
  refine wpAnyT_take (i := 2) (v := ?_) rfl (by kernel_rfl) (by kernel_rfl) (by kernel_rfl) (fun _ _ _ h => h) (by kernel_rfl) (by decide) (Or.inl ⟨by rfl, ?_⟩) (by assumption) ?_
  rotate_left
  ·(intro wq hSw; (try dsimp only at hSw); obtain ⟨⟨hS0, hS1, hS2, hS3, hS4, hS5, hS6, hS7, hS8, hS9, hS10⟩, hS11⟩ := hSw; go_simp)
   all_goals with_reducible rfl
  (try simp only [List.getElem_toArray, List.getElem_cons_zero, List.getElem_cons_succ, Act.put, List.setIfInBounds_toArray, List.set_cons_zero, List.set_cons_succ])
  refine wpAnyT_take (i := 3) (v := ?_) rfl (by kernel_rfl) (by kernel_rfl) (by kernel_rfl) (fun _ _ _ h => h) (by kernel_rfl) (by decide) (Or.inl ⟨by rfl, ?_⟩) (by assumption) ?_
  rotate_left
  ·(intro wq hSw; (try dsimp only at hSw); obtain ⟨⟨hS0, hS1, hS2, hS3, hS4, hS5, hS6, hS7, hS8, hS9, hS10⟩, hS11⟩ := hSw; go_simp)
   all_goals with_reducible rfl
  (try simp only [List.getElem_toArray, List.getElem_cons_zero, List.getElem_cons_succ, Act.put, List.setIfInBounds_toArray, List.set_cons_zero, List.set_cons_succ])
  refine wpAnyT_take (i := 4) (v := ?_) rfl (by kernel_rfl) (by kernel_rfl) (by kernel_rfl) (fun _ _ _ h => h) (by kernel_rfl) (by decide) (Or.inl ⟨by rfl, ?_⟩) (by assumption) ?_
  rotate_left
  ·(intro wq hSw; (try dsimp only at hSw); obtain ⟨⟨hS0, hS1, hS2, hS3, hS4, hS5, hS6, hS7, hS8, hS9, hS10⟩, hS11⟩ := hSw; go_simp)
   all_goals with_reducible rfl
  (try simp only [List.getElem_toArray, List.getElem_cons_zero, List.getElem_cons_succ, Act.put, List.setIfInBounds_toArray, List.set_cons_zero, List.set_cons_succ])
  refine wpAnyT_take (i := 5) (v := ?_) rfl (by kernel_rfl) (by kernel_rfl) (by kernel_rfl) (fun _ _ _ h => h) (by kernel_rfl) (by decide) (Or.inl ⟨by rfl, ?_⟩) (by assumption) ?_
  rotate_left
  ·(intro wq hSw; (try dsimp only at hSw); obtain ⟨⟨hS0, hS1, hS2, hS3, hS4, hS5, hS6, hS7, hS8, hS9, hS10⟩, hS11⟩ := hSw; go_simp)
   all_goals with_reducible rfl
  (try simp only [List.getElem_toArray, List.getElem_cons_zero, List.getElem_cons_succ, Act.put, List.setIfInBounds_toArray, List.set_cons_zero, List.set_cons_succ])
  refine wpAnyT_take (i := 6) (v := ?_) rfl (by kernel_rfl) (by kernel_rfl) (by kernel_rfl) (fun _ _ _ h => h) (by kernel_rfl) (by decide) (Or.inl ⟨by rfl, ?_⟩) (by assumption) ?_
  rotate_left
  ·(intro wq hSw; (try dsimp only at hSw); obtain ⟨⟨hS0, hS1, hS2, hS3, hS4, hS5, hS6, hS7, hS8, hS9, hS10⟩, hS11⟩ := hSw; go_simp)
   all_goals with_reducible rfl
  (try simp only [List.getElem_toArray, List.getElem_cons_zero, List.getElem_cons_succ, Act.put, List.setIfInBounds_toArray, List.set_cons_zero, List.set_cons_succ])
  refine wpAnyT_take (i := 7) (v := ?_) rfl (by kernel_rfl) (by kernel_rfl) (by kernel_rfl) (fun _ _ _ h => h) (by kernel_rfl) (by decide) (Or.inl ⟨by rfl, ?_⟩) (by assumption) ?_
  rotate_left
  ·(intro wq hSw; (try dsimp only at hSw); obtain ⟨⟨hS0, hS1, hS2, hS3, hS4, hS5, hS6, hS7, hS8, hS9, hS10⟩, hS11⟩ := hSw; go_simp)
   all_goals with_reducible rfl
  (try simp only [List.getElem_toArray, List.getElem_cons_zero, List.getElem_cons_succ, Act.put, List.setIfInBounds_toArray, List.set_cons_zero, List.set_cons_succ])
  refine wpAnyT_take (i := 8) (v := ?_) rfl (by kernel_rfl) (by kernel_rfl) (by kernel_rfl) (fun _ _ _ h => h) (by kernel_rfl) (by decide) (Or.inl ⟨by rfl, ?_⟩) (by assumption) ?_
  rotate_left
  ·(intro wq hSw; (try dsimp only at hSw); obtain ⟨⟨hS0, hS1, hS2, hS3, hS4, hS5, hS6, hS7, hS8, hS9, hS10⟩, hS11⟩ := hSw; go_simp)
   all_goals with_reducible rfl
  (try simp only [List.getElem_toArray, List.getElem_cons_zero, List.getElem_cons_succ, Act.put, List.setIfInBounds_toArray, List.set_cons_zero, List.set_cons_succ])
  refine wpAnyT_take (i := 9) (v := ?_) rfl (by kernel_rfl) (by kernel_rfl) (by kernel_rfl) (fun _ _ _ h => h) (by kernel_rfl) (by decide) (Or.inl ⟨by rfl, ?_⟩) (by assumption) ?_
  rotate_left
  ·(intro wq hSw; (try dsimp only at hSw); obtain ⟨⟨hS0, hS1, hS2, hS3, hS4, hS5, hS6, hS7, hS8, hS9, hS10⟩, hS11⟩ := hSw; go_simp)
   all_goals with_reducible rfl
  (try simp only [List.getElem_toArray, List.getElem_cons_zero, List.getElem_cons_succ, Act.put, List.setIfInBounds_toArray, List.set_cons_zero, List.set_cons_succ])
  refine wpAnyT_take (i := 10) (v := ?_) rfl (by kernel_rfl) (by kernel_rfl) (by kernel_rfl) (fun _ _ _ h => h) (by kernel_rfl) (by decide) (Or.inl ⟨by rfl, ?_⟩) (by assumption) ?_
  rotate_left
  ·(intro wq hSw; (try dsimp only at hSw); obtain ⟨⟨hS0, hS1, hS2, hS3, hS4, hS5, hS6, hS7, hS8, hS9, hS10⟩, hS11⟩ := hSw; go_simp)
   all_goals with_reducible rfl
  (try simp only [List.getElem_toArray, List.getElem_cons_zero, List.getElem_cons_succ, Act.put, List.setIfInBounds_toArray, List.set_cons_zero, List.set_cons_succ])
  refine wpAnyT_take (i := 11) (v := ?_) rfl (by kernel_rfl) (by kernel_rfl) (by kernel_rfl) (fun _ _ _ h => h) (by kernel_rfl) (by decide) (Or.inl ⟨by rfl, ?_⟩) (by assumption) ?_
  rotate_left
  ·(intro wq hSw; (try dsimp only at hSw); obtain ⟨⟨hS0, hS1, hS2, hS3, hS4, hS5, hS6, hS7, hS8, hS9, hS10⟩, hS11⟩ := hSw; go_simp)
   all_goals with_reducible rfl
  (try simp only [List.getElem_toArray, List.getElem_cons_zero, List.getElem_cons_succ, Act.put, List.setIfInBounds_toArray, List.set_cons_zero, List.set_cons_succ])
  refine wpAnyT_take (i := 12) (v := ?_) rfl (by kernel_rfl) (by kernel_rfl) (by kernel_rfl) (fun _ _ _ h => h) (by kernel_rfl) (by decide) (Or.inl ⟨by rfl, ?_⟩) (by assumption) ?_
  rotate_left
  ·(intro wq hSw; (try dsimp only at hSw); obtain ⟨⟨hS0, hS1, hS2, hS3, hS4, hS5, hS6, hS7, hS8, hS9, hS10⟩, hS11⟩ := hSw; go_simp)
   all_goals with_reducible rfl
  (try simp only [List.getElem_toArray, List.getElem_cons_zero, List.getElem_cons_succ, Act.put, List.setIfInBounds_toArray, List.set_cons_zero, List.set_cons_succ])
  refine wpAnyT_take (i := 13) (v := ?_) rfl (by kernel_rfl) (by kernel_rfl) (by kernel_rfl) (fun _ _ _ h => h) (by kernel_rfl) (by decide) (Or.inl ⟨by rfl, ?_⟩) (by assumption) ?_
  rotate_left
  ·(intro wq hSw; (try dsimp only at hSw); obtain ⟨⟨hS0, hS1, hS2, hS3, hS4, hS5, hS6, hS7, hS8, hS9, hS10⟩, hS11⟩ := hSw; go_simp)
   all_goals with_reducible rfl
  (try simp only [List.getElem_toArray, List.getElem_cons_zero, List.getElem_cons_succ, Act.put, List.setIfInBounds_toArray, List.set_cons_zero, List.set_cons_succ])
  refine wpAnyT_take (i := 14) (v := ?_) rfl (by kernel_rfl) (by kernel_rfl) (by kernel_rfl) (fun _ _ _ h => h) (by kernel_rfl) (by decide) (Or.inl ⟨by rfl, ?_⟩) (by assumption) ?_
  rotate_left
  ·(intro wq hSw; (try dsimp only at hSw); obtain ⟨⟨hS0, hS1, hS2, hS3, hS4, hS5, hS6, hS7, hS8, hS9, hS10⟩, hS11⟩ := hSw; go_simp)
   all_goals with_reducible rfl
  (try simp only [List.getElem_toArray, List.getElem_cons_zero, List.getElem_cons_succ, Act.put, List.setIfInBounds_toArray, List.set_cons_zero, List.set_cons_succ])
  refine wpAnyT_take (i := 15) (v := ?_) rfl (by kernel_rfl) (by kernel_rfl) (by kernel_rfl) (fun _ _ _ h => h) (by kernel_rfl) (by decide) (Or.inl ⟨by rfl, ?_⟩) (by assumption) ?_
  rotate_left
  ·(intro wq hSw; (try dsimp only at hSw); obtain ⟨⟨hS0, hS1, hS2, hS3, hS4, hS5, hS6, hS7, hS8, hS9, hS10⟩, hS11⟩ := hSw; go_simp)
   all_goals with_reducible rfl
  (try simp only [List.getElem_toArray, List.getElem_cons_zero, List.getElem_cons_succ, Act.put, List.setIfInBounds_toArray, List.set_cons_zero, List.set_cons_succ])
  refine wpAnyT_take (i := 16) (v := ?_) rfl (by kernel_rfl) (by kernel_rfl) (by kernel_rfl) (fun _ _ _ h => h) (by kernel_rfl) (by decide) (Or.inl ⟨by rfl, ?_⟩) (by assumption) ?_
  rotate_left
  ·(intro wq hSw; (try dsimp only at hSw); obtain ⟨⟨hS0, hS1, hS2, hS3, hS4, hS5, hS6, hS7, hS8, hS9, hS10⟩, hS11⟩ := hSw; go_simp)
   all_goals with_reducible rfl
  (try simp only [List.getElem_toArray, List.getElem_cons_zero, List.getElem_cons_succ, Act.put, List.setIfInBounds_toArray, List.set_cons_zero, List.set_cons_succ])
  refine wpAnyT_take (i := 18) (v := ?_) rfl (by kernel_rfl) (by kernel_rfl) (by kernel_rfl) (fun _ _ _ h => h) (by kernel_rfl) (by decide) (Or.inl ⟨by rfl, ?_⟩) (by assumption) ?_
  rotate_left
  ·(intro wq hSw; (try dsimp only at hSw); obtain ⟨⟨hS0, hS1, hS2, hS3, hS4, hS5, hS6, hS7, hS8, hS9, hS10⟩, hS11⟩ := hSw; go_simp)
   all_goals with_reducible rfl
  (try simp only [List.getElem_toArray, List.getElem_cons_zero, List.getElem_cons_succ, Act.put, List.setIfInBounds_toArray, List.set_cons_zero, List.set_cons_succ])
  refine wpAnyT_take (i := 19) (v := ?_) rfl (by kernel_rfl) (by kernel_rfl) (by kernel_rfl) (fun _ _ _ h => h) (by kernel_rfl) (by decide) (Or.inl ⟨by rfl, ?_⟩) (by assumption) ?_
  rotate_left
  ·(intro wq hSw; (try dsimp only at hSw); obtain ⟨⟨hS0, hS1, hS2, hS3, hS4, hS5, hS6, hS7, hS8, hS9, hS10⟩, hS11⟩ := hSw; go_simp)
   all_goals with_reducible rfl
  (try simp only [List.getElem_toArray, List.getElem_cons_zero, List.getElem_cons_succ, Act.put, List.setIfInBounds_toArray, List.set_cons_zero, List.set_cons_succ])
  refine wpAnyT_one 17 (by kernel_rfl) rfl (fun K' hK' => ?_)
  (try rw [if_pos (by rfl)])
  go_simp
  refine (cloneM_any xd.ms (HOK.out.1.ms.belo (below_drewN W 1)) HSM.out.1).mono ?_
  rintro e7 w7 ⟨v7, rfl, hs7, hb7⟩
  obtain ⟨A7, a7, rfl, -⟩ := hs7.form
  have HB7 : Box (Below W.heap.size W w7 ∧ SeqP w7 (fun b _ => W.heap.size ≤ b) 3 (.slice A7 xd.ms.length a7) xd.ms.length (xd.ms.flatMap matCells)) := ⟨(below_drewN W 1).trans hb7, hs7⟩
  have HK7 : Box ((w7.cell? ⟨tb, 0, none⟩ = some (.int .i64 xd.kind) ∧ w7.cell? ⟨tb, 1, none⟩ = some (.int .i64 xd.fn) ∧ w7.cell? ⟨tb, 2, none⟩ = some (.int .i64 xd.win) ∧ w7.cell? ⟨tb, 3, none⟩ = some (.int .i64 xd.off) ∧ w7.cell? ⟨tb, 4, none⟩ = some (.int .i64 xd.k) ∧ w7.cell? ⟨tb, 5, none⟩ = some (.int .i64 xd.num) ∧ w7.cell? ⟨tb, 6, none⟩ = some (.int .i64 xd.den) ∧ w7.cell? ⟨tb, 7, none⟩ = some (.string xd.name) ∧ w7.cell? ⟨tb, 8, none⟩ = some (.slice X1 xd.ms.length x1) ∧ w7.cell? ⟨tb, 9, none⟩ = some (.slice X2 xd.bys.length x2) ∧ w7.cell? ⟨tb, 10, none⟩ = some (.slice X3 m3 x3)) ∧ w7.cell? ⟨pb, 0, none⟩ = some (.slice A8 pre.length a8)) := ⟨at11_keep HK.out.1 HB7.out.1 HLT.out.1, (HB7.out.1.cell HLT.out.2).trans HK.out.2⟩
  clear hs7 hb7
  go_wp2_with fail
  refine hK'.out _ _ (fun _ => HK7.out) (fun hHq => ?_)
  clear hHeld
  have hHeld := hHq (by decide)
  clear hHq hK' K'
  (try simp only [List.getElem_toArray, List.getElem_cons_zero, List.getElem_cons_succ, Act.put, List.setIfInBounds_toArray, List.set_cons_zero, List.set_cons_succ])
  refine wpAnyT_one 20 (by kernel_rfl) rfl (fun K' hK' => ?_)
  (try rw [if_pos (by rfl)])
  go_simp
  refine (cloneS_any xd.bys ((HOK.out.1.bys.belo HB7.out.1)) HSM.out.2).mono ?_
  rintro e8 w8 ⟨v8, rfl, hs8, hb8⟩
  obtain ⟨A9, a9, rfl, -⟩ := hs8.form
  have hz7 := HB7.out.1.size
  have HB8 : Box (Below W.heap.size W w8 ∧ InsAt w8 (fun b _ => W.heap.size ≤ b) xd (.slice A7 xd.ms.length a7) (.slice A9 xd.bys.length a9)) := ⟨bthen HB7.out.1 hb8 (Nat.le_refl _), HOK.out.1.ok, HB7.out.2.belo hb8, hs8.mono fun b _ _ h => Nat.le_trans hz7 h⟩
  have HK8 : Box ((w8.cell? ⟨tb, 0, none⟩ = some (.int .i64 xd.kind) ∧ w8.cell? ⟨tb, 1, none⟩ = some (.int .i64 xd.fn) ∧ w8.cell? ⟨tb, 2, none⟩ = some (.int .i64 xd.win) ∧ w8.cell? ⟨tb, 3, none⟩ = some (.int .i64 xd.off) ∧ w8.cell? ⟨tb, 4, none⟩ = some (.int .i64 xd.k) ∧ w8.cell? ⟨tb, 5, none⟩ = some (.int .i64 xd.num) ∧ w8.cell? ⟨tb, 6, none⟩ = some (.int .i64 xd.den) ∧ w8.cell? ⟨tb, 7, none⟩ = some (.string xd.name) ∧ w8.cell? ⟨tb, 8, none⟩ = some (.slice X1 xd.ms.length x1) ∧ w8.cell? ⟨tb, 9, none⟩ = some (.slice X2 xd.bys.length x2) ∧ w8.cell? ⟨tb, 10, none⟩ = some (.slice X3 m3 x3)) ∧ w8.cell? ⟨pb, 0, none⟩ = some (.slice A8 pre.length a8)) := ⟨at11_keep HK.out.1 HB8.out.1 HLT.out.1, (HB8.out.1.cell HLT.out.2).trans HK.out.2⟩
  clear hs8 hb8 hz7
  go_wp2_with fail
  refine hK'.out _ _ (fun _ => HK8.out) (fun hHq => ?_)
  clear hHeld
  have hHeld := hHq (by decide)
  clear hHq hK' K'
  (try simp only [List.getElem_toArray, List.getElem_cons_zero, List.getElem_cons_succ, Act.put, List.setIfInBounds_toArray, List.set_cons_zero, List.set_cons_succ])
  refine wpAnyT_take (i := 21) (v := ?_) rfl (by kernel_rfl) (by kernel_rfl) (by kernel_rfl) (fun _ _ _ h => h) (by kernel_rfl) (by decide) (Or.inl ⟨by rfl, ?_⟩) (by assumption) ?_
  rotate_left
  ·(intro wq hSw; (try dsimp only at hSw); obtain ⟨⟨hS0, hS1, hS2, hS3, hS4, hS5, hS6, hS7, hS8, hS9, hS10⟩, hS11⟩ := hSw; go_simp)
   all_goals with_reducible rfl
  (try simp only [List.getElem_toArray, List.getElem_cons_zero, List.getElem_cons_succ, Act.put, List.setIfInBounds_toArray, List.set_cons_zero, List.set_cons_succ])
  have HKA : Box (((w8.alloc (.cells #[.int .i64 xd.kind, .int .i64 xd.fn, .int .i64 xd.win, .int .i64 xd.off, .int .i64 xd.k, .int .i64 xd.num, .int .i64 xd.den, .string xd.name, .slice A7 xd.ms.length a7, .slice A9 xd.bys.length a9] 55)).cell? ⟨tb, 0, none⟩ = some (.int .i64 xd.kind) ∧ (w8.alloc (.cells #[.int .i64 xd.kind, .int .i64 xd.fn, .int .i64 xd.win, .int .i64 xd.off, .int .i64 xd.k, .int .i64 xd.num, .int .i64 xd.den, .string xd.name, .slice A7 xd.ms.length a7, .slice A9 xd.bys.length a9] 55)).cell? ⟨tb, 1, none⟩ = some (.int .i64 xd.fn) ∧ (w8.alloc (.cells #[.int .i64 xd.kind, .int .i64 xd.fn, .int .i64 xd.win, .int .i64 xd.off, .int .i64 xd.k, .int .i64 xd.num, .int .i64 xd.den, .string xd.name, .slice A7 xd.ms.length a7, .slice A9 xd.bys.length a9] 55)).cell? ⟨tb, 2, none⟩ = some (.int .i64 xd.win) ∧ (w8.alloc (.cells #[.int .i64 xd.kind, .int .i64 xd.fn, .int .i64 xd.win, .int .i64 xd.off, .int .i64 xd.k, .int .i64 xd.num, .int .i64 xd.den, .string xd.name, .slice A7 xd.ms.length a7, .slice A9 xd.bys.length a9] 55)).cell? ⟨tb, 3, none⟩ = some (.int .i64 xd.off) ∧ (w8.alloc (.cells #[.int .i64 xd.kind, .int .i64 xd.fn, .int .i64 xd.win, .int .i64 xd.off, .int .i64 xd.k, .int .i64 xd.num, .int .i64 xd.den, .string xd.name, .slice A7 xd.ms.length a7, .slice A9 xd.bys.length a9] 55)).cell? ⟨tb, 4, none⟩ = some (.int .i64 xd.k) ∧ (w8.alloc (.cells #[.int .i64 xd.kind, .int .i64 xd.fn, .int .i64 xd.win, .int .i64 xd.off, .int .i64 xd.k, .int .i64 xd.num, .int .i64 xd.den, .string xd.name, .slice A7 xd.ms.length a7, .slice A9 xd.bys.length a9] 55)).cell? ⟨tb, 5, none⟩ = some (.int .i64 xd.num) ∧ (w8.alloc (.cells #[.int .i64 xd.kind, .int .i64 xd.fn, .int .i64 xd.win, .int .i64 xd.off, .int .i64 xd.k, .int .i64 xd.num, .int .i64 xd.den, .string xd.name, .slice A7 xd.ms.length a7, .slice A9 xd.bys.length a9] 55)).cell? ⟨tb, 6, none⟩ = some (.int .i64 xd.den) ∧ (w8.alloc (.cells #[.int .i64 xd.kind, .int .i64 xd.fn, .int .i64 xd.win, .int .i64 xd.off, .int .i64 xd.k, .int .i64 xd.num, .int .i64 xd.den, .string xd.name, .slice A7 xd.ms.length a7, .slice A9 xd.bys.length a9] 55)).cell? ⟨tb, 7, none⟩ = some (.string xd.name) ∧ (w8.alloc (.cells #[.int .i64 xd.kind, .int .i64 xd.fn, .int .i64 xd.win, .int .i64 xd.off, .int .i64 xd.k, .int .i64 xd.num, .int .i64 xd.den, .string xd.name, .slice A7 xd.ms.length a7, .slice A9 xd.bys.length a9] 55)).cell? ⟨tb, 8, none⟩ = some (.slice X1 xd.ms.length x1) ∧ (w8.alloc (.cells #[.int .i64 xd.kind, .int .i64 xd.fn, .int .i64 xd.win, .int .i64 xd.off, .int .i64 xd.k, .int .i64 xd.num, .int .i64 xd.den, .string xd.name, .slice A7 xd.ms.length a7, .slice A9 xd.bys.length a9] 55)).cell? ⟨tb, 9, none⟩ = some (.slice X2 xd.bys.length x2) ∧ (w8.alloc (.cells #[.int .i64 xd.kind, .int .i64 xd.fn, .int .i64 xd.win, .int .i64 xd.off, .int .i64 xd.k, .int .i64 xd.num, .int .i64 xd.den, .string xd.name, .slice A7 xd.ms.length a7, .slice A9 xd.bys.length a9] 55)).cell? ⟨tb, 10, none⟩ = some (.slice X3 m3 x3)) ∧ (w8.alloc (.cells #[.int .i64 xd.kind, .int .i64 xd.fn, .int .i64 xd.win, .int .i64 xd.off, .int .i64 xd.k, .int .i64 xd.num, .int .i64 xd.den, .string xd.name, .slice A7 xd.ms.length a7, .slice A9 xd.bys.length a9] 55)).cell? ⟨pb, 0, none⟩ = some (.slice A8 pre.length a8)) := ⟨at11_keep HK.out.1 (HB8.out.1.alloc HB8.out.1.size _) HLT.out.1, ((HB8.out.1.alloc HB8.out.1.size _).cell HLT.out.2).trans HK.out.2⟩
  refine wpAnyT_one 22 (by kernel_rfl) rfl (fun K' hK' => ?_)
  (try rw [if_pos (by rfl)])
  go_simp
  refine hK'.out _ _ (fun _ => HKA.out) (fun hHq => ?_)
  clear hHeld
  have hHeld := hHq (by decide)
  clear hHq hK' K'
  (try simp only [List.getElem_toArray, List.getElem_cons_zero, List.getElem_cons_succ, Act.put, List.setIfInBounds_toArray, List.set_cons_zero, List.set_cons_succ])
  refine wpAnyT_one 23 (by kernel_rfl) rfl (fun K' hK' => ?_)
  (try rw [if_pos (by rfl)])
  refine wp_append_lies _ _ _ 25 (by rfl) (pb + 1) 55 i0 _ 10 120 Tryz.underlying25 HJ.out.1 HJ.out.2.1 HJ.out.2.2.1 HJ.out.2.2.2 rfl (by decide) (.slice A8 pre.length a8) pre.length (((pre.map (·.1)).zip cs).flatMap insL) (by rfl) (own_below HOW.out.1 (HB8.out.1.alloc HB8.out.1.size _)) ⟨w8.heap.size, 0, none⟩ 1 1 (insL (xd, .slice A7 xd.ms.length a7, .slice A9 xd.bys.length a9)) (by rfl) rfl (World.news_of_block (Blk.new _ _ _)) (ins_one _ ⟨_, _, _, rfl⟩ ⟨_, _, _, rfl⟩) (by omega) (by unfold maxLen; omega) (by omega) (by have := HB8.out.1.size; have := HLT.out.2; simp; omega) (w8.heap.size + 1) (by simp) ?_
  intro g9 cap9 w9 hown9 hgr9 hat9 hlt9
  have HF := Box.mk (cp_app (x := (xd, .slice X1 xd.ms.length x1, .slice X2 xd.bys.length x2, .slice X3 m3 x3)) (mv := .slice A7 xd.ms.length a7) (bv := .slice A9 xd.bys.length a9) HI.out HOW.out.1 HOW.out.2 HB8.out.1 HB8.out.2 hown9 hgr9 hat9 (List.length_map ..).symm)
  have HK9 : Box ((w9.cell? ⟨tb, 0, none⟩ = some (.int .i64 xd.kind) ∧ w9.cell? ⟨tb, 1, none⟩ = some (.int .i64 xd.fn) ∧ w9.cell? ⟨tb, 2, none⟩ = some (.int .i64 xd.win) ∧ w9.cell? ⟨tb, 3, none⟩ = some (.int .i64 xd.off) ∧ w9.cell? ⟨tb, 4, none⟩ = some (.int .i64 xd.k) ∧ w9.cell? ⟨tb, 5, none⟩ = some (.int .i64 xd.num) ∧ w9.cell? ⟨tb, 6, none⟩ = some (.int .i64 xd.den) ∧ w9.cell? ⟨tb, 7, none⟩ = some (.string xd.name) ∧ w9.cell? ⟨tb, 8, none⟩ = some (.slice X1 xd.ms.length x1) ∧ w9.cell? ⟨tb, 9, none⟩ = some (.slice X2 xd.bys.length x2) ∧ w9.cell? ⟨tb, 10, none⟩ = some (.slice X3 m3 x3)) ∧ w9.cell? ⟨pb, 0, none⟩ = some (.slice A8 pre.length a8)) := ⟨at11_far HK.out.1 HF.out.2.2.2.2.2 HTB.out, HF.out.2.2.2.1⟩
  have p9 := HF.out.2.2.2.1
  have pf := HF.out.2.2.2.2.1
  clear hown9 hgr9 hat9 hlt9
  refine hK'.out _ _ (fun _ => HK9.out) (fun hHq => ?_)
  clear hHeld
  have hHeld := hHq (by decide)
  clear hHq hK' K'
  (try simp only [List.getElem_toArray, List.getElem_cons_zero, List.getElem_cons_succ, Act.put, List.setIfInBounds_toArray, List.set_cons_zero, List.set_cons_succ])
  refine wpAnyT_one 24 (by kernel_rfl) rfl (fun K' hK' => ?_)
  (try rw [if_pos (by rfl)])
  go_simp
  refine hK'.out _ _ (fun h => absurd rfl h) (fun _ => ?_)
  clear hHeld hK' K'
  (try simp only [List.getElem_toArray, List.getElem_cons_zero, List.getElem_cons_succ, Act.put, List.setIfInBounds_toArray, List.set_cons_zero, List.set_cons_succ])
  refine wpAnyT_done (by kernel_rfl) ?_ _
  exact ⟨rfl, HF.out.2.1.from _, ⟨_, HF.out.1⟩, HF.out.2.2.1⟩
 case done =>
  rintro D xs W hD hxs ⟨v, hi⟩ hK
  have HI := Box.mk (hi.bq (Bq.put W2.heap.size W D _ (.deferred none) hD hK rfl) (by rw [hz2]; omega) (Pr' := fun k => k < pb + 2 ∧ k ≠ pb) fun k hk => .inl hk)
  obtain ⟨cs, hown, -⟩ := hi.pl
  rw [List.length_map] at hown
  obtain ⟨A8, a8, rfl⟩ := own_form hown
  have HX := Box.mk hxs
  have tc := hi.p.c1
  have HK := Box.mk hK
  clear hown hi hxs hK
  gi_wp2
  refine ⟨by simp, .inl ⟨_, _, rfl, run_takeDeferred HK.out, ?_⟩⟩
  obtain ⟨cs, hown, hrow⟩ := HI.out.pl
  refine ⟨_, results_tmp2 rfl _ _ _, .slice A8 xs.length a8, by rw [compileM_ok HV.out]; rfl, ?_, HI.out.below⟩
  rw [compileM_ok HV.out]
  show PlW _ _ _ _ (postT (.node d ks))
  rw [← HX.out]
  exact (show PlW _ (pb + 1) _ _ _ from ⟨cs, hown, hrow.mono fun b _ _ h => h.1.1⟩).base (by omega)
theorem pcompile_any (t : Tree) (P : Nat → Nat → Prop) (w : World) (s : Sl) (hT : TreeAt w P t s) (hw : WordsG w) : Calls Tryz.prog 24 #[.agg (ndC t.d s.1 s.2.1 s.2.2)] w (RetPlF (compileM t) w) := by
 by_cases h : validE t = 0
 ·exact pcompile_ok t P w s hT hw h
 ·exact pcompile_no t P w s hT hw h
end
end Go.Proofs.YtpgdijbfkahepaaGreatDoor
