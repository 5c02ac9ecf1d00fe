/- Contracts, packed: Ky Ss. -/
import Derived.Test.YthoibeajhdhdhaaGreatDoorPq43
import Derived.Test.YthoibeajhdhdhaaGreatDoorPq45
import Derived.Test.YthoibeajhdhdhaaGreatDoorPq49
import Derived.Recover
import Derived.Tactics2
set_option linter.unusedVariables false
set_option linter.unusedSimpArgs false
namespace Go.Proofs.YthoibeajhdhdhaaGreatDoor
section
open Go.RowKit FracM

theorem blk11v {w : World} {b : Nat} {t : TypeId} {v0 v1 v2 v3 v4 v5 v6 v7 v8 v9 v10 : Value} (h : Blk w b t #[v0, v1, v2, v3, v4, v5, v6, v7, v8, v9, v10]) : w.cell? ⟨b, 0, none⟩ = some v0 ∧ w.cell? ⟨b, 1, none⟩ = some v1 ∧ w.cell? ⟨b, 2, none⟩ = some v2 ∧ w.cell? ⟨b, 3, none⟩ = some v3 ∧ w.cell? ⟨b, 4, none⟩ = some v4 ∧ w.cell? ⟨b, 5, none⟩ = some v5 ∧ w.cell? ⟨b, 6, none⟩ = some v6 ∧ w.cell? ⟨b, 7, none⟩ = some v7 ∧ w.cell? ⟨b, 8, none⟩ = some v8 ∧ w.cell? ⟨b, 9, none⟩ = some v9 ∧ w.cell? ⟨b, 10, none⟩ = some v10 := by
  unfold Blk at h
  refine ⟨?_, ?_, ?_, ?_, ?_, ?_, ?_, ?_, ?_, ?_, ?_⟩ <;> simp [World.cell?, h]
theorem put11_blkv {W : World} {o : Nat} {t : TypeId} {v0 v1 v2 v3 v4 v5 v6 v7 v8 v9 v10 u0 u1 u2 u3 u4 u5 u6 u7 u8 u9 u10 : Value} (h : Blk W o t #[v0, v1, v2, v3, v4, v5, v6, v7, v8, v9, v10]) : Blk (put11 W o u0 u1 u2 u3 u4 u5 u6 u7 u8 u9 u10) o t #[u0, u1, u2, u3, u4, u5, u6, u7, u8, u9, u10] := by
  unfold put11
  have := ((((((((((h.set 0 u0).set 1 u1).set 2 u2).set 3 u3).set 4 u4).set 5 u5).set 6 u6).set 7 u7).set 8 u8).set 9 u9).set 10 u10
  simpa using this
set_option maxRecDepth 100000 in
set_option maxHeartbeats 4000000 in
theorem pcatch_fail (ps pe pa pr B : Nat) (f : Int × Int) (s : ByteArray) (w : World) (cs0 : Array Value) (v0 v1 v2 v3 v4 v5 v6 v7 v8 v9 v10 : Value) (a0 e0 : Value) (hs : w.cell? ⟨ps, 0, none⟩ = some (.string s))
    (he : Blk w pe 29 #[v0, v1, v2, v3, v4, v5, v6, v7, v8, v9, v10]) (ha : Blk w pa 3 #[a0]) (hr : Blk w pr 44 #[e0]) (n1 : pe ≠ pa) (n2 : pe ≠ pr) (n3 : pa ≠ pr) (hB : B ≤ pe ∧ B ≤ pa ∧ B ≤ pr ∧ B ≤ w.heap.size) :
    CallsD Tryz.prog 55 #[.pointer (some ⟨ps, 0, none⟩), .pointer (some ⟨pe, 0, none⟩), .pointer (some ⟨pa, 0, none⟩), .pointer (some ⟨pr, 0, none⟩)] (.panicking [{ v := .iface 82 (.agg #[.int .i64 f.1, .int .i64 f.2]), recovered := false }]) w fun e u' w' =>
      e = .returned (.tuple #[]) ∧ u' = .panicking [{ v := .iface 82 (.agg #[.int .i64 f.1, .int .i64 f.2]), recovered := true }] ∧ Blk w' pe 29 zeroC ∧ Blk w' pa 3 #[.int .i64 f.1] ∧ Blk w' pr 44 #[.int .i64 f.2] ∧ Below B w w' := by
  refine callsD_of_wpS Tryz.func55 rfl fun c₀ cs hu => ?_
  apply wpS_seq
  apply wpS_region
  simp [wpOpsS, go_sem, recoverD, hu, Tryz.ntmps55, Exit.thenS]
  refine wpS_of_wp ?_
  simp only [Array.replicate_succ, Array.replicate_zero, List.push_toArray, List.append_toArray, List.nil_append, List.cons_append, List.setIfInBounds_toArray, List.set_cons_succ, List.set_cons_zero]
  have hta : ∀ W : World, (Instr.typeAssert (.iface 82 (.agg #[.int .i64 f.1, .int .i64 f.2])) 20 82 true).run Tryz.prog W = .ok (.tuple #[.agg #[.int .i64 f.1, .int .i64 f.2], .bool true]) W := fun _ => by kernel_rfl
  have HW : Box (Blk (w.alloc (.cells #[.int .i64 f.1, .int .i64 f.2] 82)) pe 29 #[v0, v1, v2, v3, v4, v5, v6, v7, v8, v9, v10] ∧ Blk (w.alloc (.cells #[.int .i64 f.1, .int .i64 f.2] 82)) pa 3 #[a0] ∧ Blk (w.alloc (.cells #[.int .i64 f.1, .int .i64 f.2] 82)) pr 44 #[e0] ∧ Blk (w.alloc (.cells #[.int .i64 f.1, .int .i64 f.2] 82)) w.heap.size 82 #[.int .i64 f.1, .int .i64 f.2] ∧ Below w.heap.size w (w.alloc (.cells #[.int .i64 f.1, .int .i64 f.2] 82))) := ⟨he.alloc _, ha.alloc _, hr.alloc _, Blk.new _ _ _, bel1 _ _⟩
  have l1 := he.lt
  have l2 := ha.lt
  have l3 := hr.lt
  have m1 : ¬ w.heap.size = pe := by omega
  have m2 : ¬ w.heap.size = pa := by omega
  have m3 : ¬ w.heap.size = pr := by omega
  have m4 : ¬ pa = pe := fun h => n1 h.symm
  have m5 : ¬ pr = pe := fun h => n2 h.symm
  have m6 : ¬ pr = pa := fun h => n3 h.symm
  have m7 : ¬ pe = pa := n1
  have m8 : ¬ pe = pr := n2
  have m9 : ¬ pa = pr := n3
  clear he ha hr hs
  go_upto_region 5 with (fail)
  clear hta
  generalize w.alloc (.cells #[.int .i64 f.1, .int .i64 f.2] 82) = W1 at HW ⊢
  generalize hfb : w.heap.size = fb at *
  obtain ⟨x0, x1, x2, x3, x4, x5, x6, x7, x8, x9, x10⟩ := blk11v HW.out.1
  have ha0 := HW.out.2.1.c1
  have hr0 := HW.out.2.2.1.c1
  obtain ⟨f0, f1⟩ := HW.out.2.2.2.1.c2
  have ef := HW.out.1.frozen
  have af := HW.out.2.1.frozen
  have rf := HW.out.2.2.1.frozen
  go_region
  have HF : Box (Blk ((((put11 W1 pe (.int .i64 0) (.int .i64 0) (.int .i64 0) (.int .i64 0) (.int .i64 0) (.int .i64 0) (.int .i64 0) (.string ⟨#[]⟩) nilV nilV nilV).setCell ⟨pa, 0, none⟩ (.int .i64 f.1)).setCell ⟨pr, 0, none⟩ (.int .i64 f.2)).drew) pe 29 zeroC ∧ Blk ((((put11 W1 pe (.int .i64 0) (.int .i64 0) (.int .i64 0) (.int .i64 0) (.int .i64 0) (.int .i64 0) (.int .i64 0) (.string ⟨#[]⟩) nilV nilV nilV).setCell ⟨pa, 0, none⟩ (.int .i64 f.1)).setCell ⟨pr, 0, none⟩ (.int .i64 f.2)).drew) pa 3 #[.int .i64 f.1] ∧ Blk ((((put11 W1 pe (.int .i64 0) (.int .i64 0) (.int .i64 0) (.int .i64 0) (.int .i64 0) (.int .i64 0) (.int .i64 0) (.string ⟨#[]⟩) nilV nilV nilV).setCell ⟨pa, 0, none⟩ (.int .i64 f.1)).setCell ⟨pr, 0, none⟩ (.int .i64 f.2)).drew) pr 44 #[.int .i64 f.2] ∧ Below B w ((((put11 W1 pe (.int .i64 0) (.int .i64 0) (.int .i64 0) (.int .i64 0) (.int .i64 0) (.int .i64 0) (.int .i64 0) (.string ⟨#[]⟩) nilV nilV nilV).setCell ⟨pa, 0, none⟩ (.int .i64 f.1)).setCell ⟨pr, 0, none⟩ (.int .i64 f.2)).drew)) := ⟨by
    have b1 := put11_only (W := W1) (o := pe) (.int .i64 0) (.int .i64 0) (.int .i64 0) (.int .i64 0) (.int .i64 0) (.int .i64 0) (.int .i64 0) (.string ⟨#[]⟩) nilV nilV nilV
    have z1 : Blk (put11 W1 pe (.int .i64 0) (.int .i64 0) (.int .i64 0) (.int .i64 0) (.int .i64 0) (.int .i64 0) (.int .i64 0) (.string ⟨#[]⟩) nilV nilV nilV) pe 29 zeroC := put11_blkv HW.out.1
    have za := b1.blk HW.out.2.1 m4
    have zr := b1.blk HW.out.2.2.1 m5
    have zb := (HW.out.2.2.2.2.mono hB.2.2.2).trans (b1.below (B := B) hB.1 (by have := HW.out.2.2.2.2.size; omega))
    generalize put11 W1 pe (.int .i64 0) (.int .i64 0) (.int .i64 0) (.int .i64 0) (.int .i64 0) (.int .i64 0) (.int .i64 0) (.string ⟨#[]⟩) nilV nilV nilV = W2 at *
    refine ⟨Blk.drewN ((z1.far (p := ⟨pa, 0, none⟩) m7 _).far (p := ⟨pr, 0, none⟩) m8 _) 1, Blk.drewN (Blk.far (p := ⟨pr, 0, none⟩) (by simpa using za.set 0 (.int .i64 f.1)) m9 _) 1, Blk.drewN (by have := (zr.far (p := ⟨pa, 0, none⟩) m6 (.int .i64 f.1)).set 0 (.int .i64 f.2); simpa using this) 1, bdrew ((zb.setCell (p := ⟨pa, 0, none⟩) hB.2.1 _).setCell (p := ⟨pr, 0, none⟩) hB.2.2.1 _) 1⟩⟩
  exact ⟨rfl, _, rfl, _, results_none rfl _ _ _, rfl, rfl, HF.out.1, HF.out.2.1, HF.out.2.2.1, HF.out.2.2.2⟩
end
section
open Go.RowKit FracM

/-- the state of Cut: the node's copy, the result's block, out with the kids so far -/
structure CutSt (w wr : World) (P : Nat → Nat → Prop) (d : Nd) (mv bv kv : Value) (ts : List Tree) (ss : List Sl) (kvo : Value) : Prop where
  below : Below w.heap.size w wr
  e : Blk wr w.heap.size 29 (ndC d mv bv kv)
  z : Blk wr (w.heap.size + 1) 29 zeroC
  o : Blk wr (w.heap.size + 2) 29 (ndC d mv bv kvo)
  len : ss.length = ts.length
  row : wr.ownsRow (w.heap.size + 3) 29 11 kvo ts.length ((ts.zip ss).flatMap ndL)
  kid : ∀ (i : Nat) (t : Tree) (c : Sl), ts[i]? = some t → ss[i]? = some c → TreeAt wr (fun b e => ((P b e ∧ b < w.heap.size) ∨ w.heap.size + 3 ≤ b) ∧ kvo.ownBlock ≠ some b) t c
theorem CutSt.next {w wr wx : World} {P : Nat → Nat → Prop} {d : Nd} {mv bv kv kvo : Value} {ts : List Tree} {ss : List Sl} (h : CutSt w wr P d mv bv kv ts ss kvo) (f : Below wr.heap.size wr wx) : CutSt w wx P d mv bv kv ts ss kvo :=
  ⟨bthen h.below f (Nat.le_refl _), h.e.below f, h.z.below f, h.o.below f, h.len, own_below h.row f, fun i t c h1 h2 => (h.kid i t c h1 h2).belo f⟩
theorem CutSt.blk {w wr : World} {P : Nat → Nat → Prop} {d : Nd} {mv bv kv kvo : Value} {ts : List Tree} {ss : List Sl} (h : CutSt w wr P d mv bv kv ts ss kvo) : ∀ g, kvo.ownBlock = some g → w.heap.size + 3 ≤ g ∧ g < wr.heap.size := by
  intro g hg
  rcases h.row.2 with ⟨rfl, _⟩ | ⟨g', cap, cur, rfl, hb, h3, _⟩
  · simp [Value.ownBlock] at hg
  · simp [Value.ownBlock] at hg
    subst hg
    exact ⟨hb, (Array.getElem?_eq_some_iff.1 h3).1⟩
theorem CutSt.step {w wr w1 w8 : World} {P : Nat → Nat → Prop} {d : Nd} {mv bv kv kvo : Value} {ts : List Tree} {ss : List Sl} {t2 : Tree} {s2 : Sl} {g8 cap8 : Nat} {o : Obj} (h : CutSt w wr P d mv bv kv ts ss kvo) (hb1 : Below wr.heap.size wr w1)
    (ht2 : TreeAt w1 (fun b z => ((P b z ∧ b < w.heap.size) ∧ b < wr.heap.size) ∨ wr.heap.size ≤ b) t2 s2)
    (own8 : w8.ownsRow (w.heap.size + 3) 29 11 (.slice (some ⟨g8, 0, none⟩) (ts.length + 1) cap8) (ts.length + 1) ((ts.zip ss).flatMap ndL ++ ndL (t2, s2)))
    (hgr : (w1.alloc o).grownBy w8 kvo.ownBlock) (hat : kvo.ownBlock = some g8 ∨ g8 = w1.heap.size + 1) :
    CutSt w (w8.setCell ⟨w.heap.size + 2, 10, none⟩ (.slice (some ⟨g8, 0, none⟩) (ts.length + 1) cap8)) P d mv bv kv (ts ++ [t2]) (ss ++ [s2]) (.slice (some ⟨g8, 0, none⟩) (ts.length + 1) cap8) := by
  have hz := h.o.lt
  have hs1 := hb1.size
  have hs8 := hgr.size
  simp at hs8
  have hbk := h.blk
  have same : ∀ b, b < w1.heap.size → kvo.ownBlock ≠ some b → w8.heap[b]? = w1.heap[b]? := fun b hb hn => by
    rw [hgr.block b (by simp; omega) (fun e => hn e.symm)]
    exact (bel1 w1 o).block b hb
  have low : ∀ b, b < w.heap.size + 3 → kvo.ownBlock ≠ some b := fun b hb he => by have := hbk b he; omega
  have B8 : Below (w.heap.size + 3) w1 w8 := ⟨hgr.os, hgr.tape, hgr.output, by omega, fun k hk => same k (by omega) (low k hk)⟩
  have B9 : Below (w.heap.size + 2) w1 (w8.setCell ⟨w.heap.size + 2, 10, none⟩ (.slice (some ⟨g8, 0, none⟩) (ts.length + 1) cap8)) := (B8.mono (show w.heap.size + 2 ≤ w.heap.size + 3 by omega)).setCell (p := ⟨w.heap.size + 2, 10, none⟩) (Nat.le_refl _) _
  have N := h.next hb1
  have hg8 : w.heap.size + 3 ≤ g8 := by
    rcases hat with hat | hat
    · exact (hbk _ hat).1
    · omega
  have hsz : (w8.setCell ⟨w.heap.size + 2, 10, none⟩ (.slice (some ⟨g8, 0, none⟩) (ts.length + 1) cap8)).heap.size = w8.heap.size := by simp [World.setCell]
  refine ⟨N.below.trans (B9.mono (by omega)), (B9.block _ (by omega)).trans N.e, (B9.block _ (by omega)).trans N.z, ?_, by simp [h.len], ?_, ?_⟩
  · have h8 : Blk w8 (w.heap.size + 2) 29 (ndC d mv bv kvo) := (B8.block _ (by omega)).trans N.o
    simpa using h8.set 10 (.slice (some ⟨g8, 0, none⟩) (ts.length + 1) cap8)
  · have := own_only own8 (Only.setCell (g := w.heap.size + 2) 10 (.slice (some ⟨g8, 0, none⟩) (ts.length + 1) cap8)) (by omega)
    rw [List.zip_append h.len.symm, List.flatMap_append, List.length_append]
    simpa using this
  · have KEEP : ∀ {Q : Nat → Nat → Prop} {t : Tree} {c : Sl}, TreeAt w1 Q t c → (∀ b e, b < w1.heap.size → Q b e → kvo.ownBlock ≠ some b ∧ b ≠ w.heap.size + 2) → TreeAt (w8.setCell ⟨w.heap.size + 2, 10, none⟩ (.slice (some ⟨g8, 0, none⟩) (ts.length + 1) cap8)) Q t c := by
      intro Q t c ht hQ
      refine ht.keep ⟨by omega, fun b e o hp hb ho => World.cell?_of_block (a := ⟨b, o, none⟩) ?_⟩
      obtain ⟨q1, q2⟩ := hQ b e hb hp
      exact ((Only.setCell (g := w.heap.size + 2) 10 _).block b (by omega) q2).trans (same b hb q1)
    intro i t c h1 h2
    by_cases hi : i < ts.length
    · rw [List.getElem?_append_left hi] at h1
      rw [List.getElem?_append_left (by rw [h.len]; exact hi)] at h2
      have hk := (h.kid i t c h1 h2).mono (Q := fun b e => (((P b e ∧ b < w.heap.size) ∨ w.heap.size + 3 ≤ b) ∧ kvo.ownBlock ≠ some b) ∧ b < wr.heap.size) fun b e hb hp => ⟨hp, hb⟩
      refine (KEEP (hk.belo hb1) fun b e hb hp => ⟨hp.1.2, by rcases hp.1.1 with q | q <;> omega⟩).mono fun b e hb hp => ⟨hp.1.1, ?_⟩
      intro hc
      simp [Value.ownBlock] at hc
      subst hc
      rcases hat with hat | hat
      · exact hp.1.2 hat
      · have := hp.2; omega
    · rw [List.getElem?_append_right (by omega)] at h1
      rw [List.getElem?_append_right (by rw [h.len]; omega)] at h2
      rw [h.len] at h2
      match hj : i - ts.length, h1, h2 with
      | j + 1, h1, h2 => simp at h1
      | 0, h1, h2 =>
        simp at h1 h2
        subst h1 h2
        have hk := ht2.mono (Q := fun b z => (((P b z ∧ b < w.heap.size) ∧ b < wr.heap.size) ∨ wr.heap.size ≤ b) ∧ b < w1.heap.size) fun b e hb hp => ⟨hp, hb⟩
        refine (KEEP hk fun b e hb hp => ⟨fun he => ?_, by rcases hp.1 with q | q <;> omega⟩).mono fun b e hb hp => ⟨?_, ?_⟩
        · have := hbk b he
          rcases hp.1 with q | q <;> omega
        · rcases hp.1 with q | q
          · exact .inl q.1
          · exact .inr (by omega)
        · intro hc
          simp [Value.ownBlock] at hc
          subst hc
          rcases hat with hat | hat
          · have := hbk _ hat
            rcases hp.1 with q | q <;> omega
          · have := hp.2; omega
end
end Go.Proofs.YthoibeajhdhdhaaGreatDoor
