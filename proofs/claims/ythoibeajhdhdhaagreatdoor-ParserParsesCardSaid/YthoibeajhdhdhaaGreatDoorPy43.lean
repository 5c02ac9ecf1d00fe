/- Contracts, packed: Ky Sn Ss Lf Lg Lh Li. -/
import Derived.Test.YthoibeajhdhdhaaGreatDoorPy23
import Derived.Test.YthoibeajhdhdhaaGreatDoorPy25
import Derived.Test.YthoibeajhdhdhaaGreatDoorPy26
import Derived.Test.YthoibeajhdhdhaaGreatDoorPy42
import Derived.Recover
import Derived.Tactics2
import Derived.Deep.CutBlock
set_option linter.unusedVariables false
set_option linter.unusedSimpArgs false
namespace Go.Proofs.YthoibeajhdhdhaaGreatDoor
section
open Go.RowKit FracM
theorem blk11v {w : World} {b : Nat} {t : TypeId} {v0 v1 v2 v3 v4 v5 v6 v7 v8 v9 v10 : Value} (h : Blk w b t #[v0, v1, v2, v3, v4, v5, v6, v7, v8, v9, v10]) : w.cell? ⟨b, 0, none⟩ = some v0 ∧ w.cell? ⟨b, 1, none⟩ = some v1 ∧ w.cell? ⟨b, 2, none⟩ = some v2 ∧ w.cell? ⟨b, 3, none⟩ = some v3 ∧ w.cell? ⟨b, 4, none⟩ = some v4 ∧ w.cell? ⟨b, 5, none⟩ = some v5 ∧ w.cell? ⟨b, 6, none⟩ = some v6 ∧ w.cell? ⟨b, 7, none⟩ = some v7 ∧ w.cell? ⟨b, 8, none⟩ = some v8 ∧ w.cell? ⟨b, 9, none⟩ = some v9 ∧ w.cell? ⟨b, 10, none⟩ = some v10 := by
 unfold Blk at h
 refine ⟨?_, ?_, ?_, ?_, ?_, ?_, ?_, ?_, ?_, ?_, ?_⟩ <;> simp [World.cell?, h]
theorem put11_blkv {W : World} {o : Nat} {t : TypeId} {v0 v1 v2 v3 v4 v5 v6 v7 v8 v9 v10 u0 u1 u2 u3 u4 u5 u6 u7 u8 u9 u10 : Value} (h : Blk W o t #[v0, v1, v2, v3, v4, v5, v6, v7, v8, v9, v10]) : Blk (put11 W o u0 u1 u2 u3 u4 u5 u6 u7 u8 u9 u10) o t #[u0, u1, u2, u3, u4, u5, u6, u7, u8, u9, u10] := by
 unfold put11
 have := ((((((((((h.set 0 u0).set 1 u1).set 2 u2).set 3 u3).set 4 u4).set 5 u5).set 6 u6).set 7 u7).set 8 u8).set 9 u9).set 10 u10
 simpa using this
set_option maxRecDepth 100000 in
set_option maxHeartbeats 4000000 in
theorem pcatch_fail (ps pe pa pr B : Nat) (f : Int × Int) (s : ByteArray) (w : World) (cs0 : Array Value) (v0 v1 v2 v3 v4 v5 v6 v7 v8 v9 v10 : Value) (a0 e0 : Value) (hs : w.cell? ⟨ps, 0, none⟩ = some (.string s))
  (he : Blk w pe 29 #[v0, v1, v2, v3, v4, v5, v6, v7, v8, v9, v10]) (ha : Blk w pa 3 #[a0]) (hr : Blk w pr 44 #[e0]) (n1 : pe ≠ pa) (n2 : pe ≠ pr) (n3 : pa ≠ pr) (hB : B ≤ pe ∧ B ≤ pa ∧ B ≤ pr ∧ B ≤ w.heap.size) :
  CallsD Tryz.prog 55 #[.pointer (some ⟨ps, 0, none⟩), .pointer (some ⟨pe, 0, none⟩), .pointer (some ⟨pa, 0, none⟩), .pointer (some ⟨pr, 0, none⟩)] (.panicking [{ v := .iface 82 (.agg #[.int .i64 f.1, .int .i64 f.2]), recovered := false }]) w fun e u' w' =>
   e = .returned (.tuple #[]) ∧ u' = .panicking [{ v := .iface 82 (.agg #[.int .i64 f.1, .int .i64 f.2]), recovered := true }] ∧ Blk w' pe 29 zeroC ∧ Blk w' pa 3 #[.int .i64 f.1] ∧ Blk w' pr 44 #[.int .i64 f.2] ∧ Below B w w' := by
 refine callsD_of_wpS Tryz.func55 rfl fun c₀ cs hu => ?_
 apply wpS_seq
 apply wpS_region
 simp [wpOpsS, go_sem, recoverD, hu, Tryz.ntmps55, Exit.thenS]
 refine wpS_of_wp ?_
 simp only [Array.replicate_succ, Array.replicate_zero, List.push_toArray, List.append_toArray, List.nil_append, List.cons_append, List.setIfInBounds_toArray, List.set_cons_succ, List.set_cons_zero]
 have hta : ∀ W : World, (Instr.typeAssert (.iface 82 (.agg #[.int .i64 f.1, .int .i64 f.2])) 20 82 true).run Tryz.prog W = .ok (.tuple #[.agg #[.int .i64 f.1, .int .i64 f.2], .bool true]) W := fun _ => by kernel_rfl
 have HW : Box (Blk (w.alloc (.cells #[.int .i64 f.1, .int .i64 f.2] 82)) pe 29 #[v0, v1, v2, v3, v4, v5, v6, v7, v8, v9, v10] ∧ Blk (w.alloc (.cells #[.int .i64 f.1, .int .i64 f.2] 82)) pa 3 #[a0] ∧ Blk (w.alloc (.cells #[.int .i64 f.1, .int .i64 f.2] 82)) pr 44 #[e0] ∧ Blk (w.alloc (.cells #[.int .i64 f.1, .int .i64 f.2] 82)) w.heap.size 82 #[.int .i64 f.1, .int .i64 f.2] ∧ Below w.heap.size w (w.alloc (.cells #[.int .i64 f.1, .int .i64 f.2] 82))) := ⟨he.alloc _, ha.alloc _, hr.alloc _, Blk.new _ _ _, bel1 _ _⟩
 have l1 := he.lt
 have l2 := ha.lt
 have l3 := hr.lt
 have m1 : ¬ w.heap.size = pe := by omega
 have m2 : ¬ w.heap.size = pa := by omega
 have m3 : ¬ w.heap.size = pr := by omega
 have m4 : ¬ pa = pe := fun h => n1 h.symm
 have m5 : ¬ pr = pe := fun h => n2 h.symm
 have m6 : ¬ pr = pa := fun h => n3 h.symm
 have m7 : ¬ pe = pa := n1
 have m8 : ¬ pe = pr := n2
 have m9 : ¬ pa = pr := n3
 clear he ha hr hs
 go_upto_region 5 with (fail)
 clear hta
 generalize w.alloc (.cells #[.int .i64 f.1, .int .i64 f.2] 82) = W1 at HW ⊢
 generalize hfb : w.heap.size = fb at *
 obtain ⟨x0, x1, x2, x3, x4, x5, x6, x7, x8, x9, x10⟩ := blk11v HW.out.1
 have ha0 := HW.out.2.1.c1
 have hr0 := HW.out.2.2.1.c1
 obtain ⟨f0, f1⟩ := HW.out.2.2.2.1.c2
 have ef := HW.out.1.frozen
 have af := HW.out.2.1.frozen
 have rf := HW.out.2.2.1.frozen
 go_region
 have HF : Box (Blk ((((put11 W1 pe (.int .i64 0) (.int .i64 0) (.int .i64 0) (.int .i64 0) (.int .i64 0) (.int .i64 0) (.int .i64 0) (.string ⟨#[]⟩) nilV nilV nilV).setCell ⟨pa, 0, none⟩ (.int .i64 f.1)).setCell ⟨pr, 0, none⟩ (.int .i64 f.2)).drew) pe 29 zeroC ∧ Blk ((((put11 W1 pe (.int .i64 0) (.int .i64 0) (.int .i64 0) (.int .i64 0) (.int .i64 0) (.int .i64 0) (.int .i64 0) (.string ⟨#[]⟩) nilV nilV nilV).setCell ⟨pa, 0, none⟩ (.int .i64 f.1)).setCell ⟨pr, 0, none⟩ (.int .i64 f.2)).drew) pa 3 #[.int .i64 f.1] ∧ Blk ((((put11 W1 pe (.int .i64 0) (.int .i64 0) (.int .i64 0) (.int .i64 0) (.int .i64 0) (.int .i64 0) (.int .i64 0) (.string ⟨#[]⟩) nilV nilV nilV).setCell ⟨pa, 0, none⟩ (.int .i64 f.1)).setCell ⟨pr, 0, none⟩ (.int .i64 f.2)).drew) pr 44 #[.int .i64 f.2] ∧ Below B w ((((put11 W1 pe (.int .i64 0) (.int .i64 0) (.int .i64 0) (.int .i64 0) (.int .i64 0) (.int .i64 0) (.int .i64 0) (.string ⟨#[]⟩) nilV nilV nilV).setCell ⟨pa, 0, none⟩ (.int .i64 f.1)).setCell ⟨pr, 0, none⟩ (.int .i64 f.2)).drew)) := ⟨by
  have b1 := put11_only (W := W1) (o := pe) (.int .i64 0) (.int .i64 0) (.int .i64 0) (.int .i64 0) (.int .i64 0) (.int .i64 0) (.int .i64 0) (.string ⟨#[]⟩) nilV nilV nilV
  have z1 : Blk (put11 W1 pe (.int .i64 0) (.int .i64 0) (.int .i64 0) (.int .i64 0) (.int .i64 0) (.int .i64 0) (.int .i64 0) (.string ⟨#[]⟩) nilV nilV nilV) pe 29 zeroC := put11_blkv HW.out.1
  have za := b1.blk HW.out.2.1 m4
  have zr := b1.blk HW.out.2.2.1 m5
  have zb := (HW.out.2.2.2.2.mono hB.2.2.2).trans (b1.below (B := B) hB.1 (by have := HW.out.2.2.2.2.size; omega))
  generalize put11 W1 pe (.int .i64 0) (.int .i64 0) (.int .i64 0) (.int .i64 0) (.int .i64 0) (.int .i64 0) (.int .i64 0) (.string ⟨#[]⟩) nilV nilV nilV = W2 at *
  refine ⟨Blk.drewN ((z1.far (p := ⟨pa, 0, none⟩) m7 _).far (p := ⟨pr, 0, none⟩) m8 _) 1, Blk.drewN (Blk.far (p := ⟨pr, 0, none⟩) (by simpa using za.set 0 (.int .i64 f.1)) m9 _) 1, Blk.drewN (by have := (zr.far (p := ⟨pa, 0, none⟩) m6 (.int .i64 f.1)).set 0 (.int .i64 f.2); simpa using this) 1, bdrew ((zb.setCell (p := ⟨pa, 0, none⟩) hB.2.1 _).setCell (p := ⟨pr, 0, none⟩) hB.2.2.1 _) 1⟩⟩
 exact ⟨rfl, _, rfl, _, results_none rfl _ _ _, rfl, rfl, HF.out.1, HF.out.2.1, HF.out.2.2.1, HF.out.2.2.2⟩
end
section
open Go.RowKit FracM
end
section
open Go.RowKit FracM
end
section
open Go.RowKit FracM
end
section
open Go.RowKit FracM
theorem ba_nil {s : ByteArray} (h : s.toList.isEmpty = true) : s = ⟨#[]⟩ := by
 rw [ByteArray.toList_eq] at h
 obtain ⟨l⟩ := s
 simp at h
 rw [h]
theorem normL_eq (ks : List Tree) : normL ks = ks.map norm := by
 induction ks with
 | nil => rfl
 | cons t ts ih => rw [normL, ih]; rfl
end
section
open Go.RowKit FracM
mutual
/-- all its numbers are natural -/
def natT : Tree → Bool
 | .node d ks => (!(d.kind == 0) || natE d.num d.den) && natL ks
def natL : List Tree → Bool
 | [] => true
 | t :: ts => natT t && natL ts
end
theorem natL_all {ks : List Tree} (h : natL ks = true) : ∀ t ∈ ks, natT t = true := by
 induction ks with
 | nil => intro t ht; cases ht
 | cons x xs ih =>
  rw [natL] at h
  simp only [Bool.and_eq_true] at h
  intro t ht
  rcases List.mem_cons.1 ht with rfl | ht
  ·exact h.1
  ·exact ih h.2 t ht
theorem norm_nat : ∀ t, chk t = 0 → natT t = true → norm t = t := Tree.ind fun d ks ih hc hn => by
 obtain ⟨h1, h2⟩ := chk_ok hc
 obtain ⟨a1, _⟩ := chk1_all h1
 rw [natT] at hn
 simp only [Bool.and_eq_true] at hn
 rw [norm]
 by_cases hk : d.kind = 0
 ·rw [if_pos hk]
  have hz : natE d.num d.den = true := by have := hn.1; rw [show (d.kind == 0) = true by simpa using hk] at this; simpa using this
  unfold normN
  rw [if_pos hz]
  unfold shapedB at a1
  rw [if_pos hk] at a1
  unfold noSelB at a1
  simp only [Bool.and_eq_true, decide_eq_true_eq, beq_iff_eq, List.isEmpty_iff] at a1
  obtain ⟨⟨⟨⟨⟨b1, b2⟩, b3⟩, b4⟩, b5⟩, b6⟩ := a1
  obtain ⟨kd, fn, wi, of, k, nu, de, na, ms, bys⟩ := d
  simp only at b1 b2 b3 b4 b5 b6 hk hz
  obtain ⟨⟨⟨c1, c2⟩, c3⟩, c4⟩ := b3
  have c3' := ba_nil (s := na) (by simpa using c3)
  unfold natE at hz
  simp only [Bool.and_eq_true, beq_iff_eq] at hz
  obtain rfl : ks = [] := List.eq_nil_of_length_eq_zero b2
  obtain rfl := hz.1.1
  subst c1 c2 c3' c4 b1 b4 b5 hk
  rfl
 ·rw [if_neg hk, normL_eq]
  congr 1
  exact (List.map_congr_left fun t ht => ih t ht (h2 t ht) (natL_all hn.2 t ht)).trans (List.map_id ks)
theorem prt_nat : ∀ t, natT t = true → prtB t = true := Tree.ind fun d ks ih hn => by
 rw [natT] at hn
 simp only [Bool.and_eq_true] at hn
 rw [prtB]
 by_cases hk : d.kind = 0
 ·rw [if_pos hk]
  have hz : natE d.num d.den = true := by have := hn.1; rw [show (d.kind == 0) = true by simpa using hk] at this; simpa using this
  unfold natE at hz
  simp only [Bool.and_eq_true, beq_iff_eq, decide_eq_true_eq] at hz
  unfold writB
  simp only [Bool.and_eq_true, decide_eq_true_eq]
  omega
 ·rw [if_neg hk]
  have h2 := natL_all hn.2
  clear hn
  induction ks with
  | nil => rfl
  | cons x xs ihx =>
   rw [prtL, ih x (by simp) (h2 x (by simp)), ihx (fun t ht => ih t (by simp [ht])) (fun t ht => h2 t (by simp [ht]))]
   rfl
end
section
open Go.RowKit FracM
theorem namesL_sz : ∀ x ∈ namesL, x.data.toList.length ≤ 4 := by decide +kernel
theorem valuesL_sz : ∀ x ∈ valuesL8, x.data.toList.length ≤ 4 := by decide +kernel
theorem gmat_len {m : Mat} (h : GoodMat m) : (matL m).length ≤ 12 := by
 have h1 := namesL_sz _ h.1
 have h2 := valuesL_sz _ h.2.2
 have h3 : (matchT.getD m.2.1.toNat []).length ≤ 2 := by
  have hk : m.2.1.toNat < 3 := by have := h.2.1; omega
  generalize m.2.1.toNat = k at hk
  match k, hk with
  | 0, _ => decide
  | 1, _ => decide
  | 2, _ => decide
 unfold matL
 simp only [List.length_append, List.length_cons, List.length_nil]
 omega
theorem gmats_len {ms : List Mat} (h : ∀ m ∈ ms, GoodMat m) (hl : ms.length ≤ 3) : (matsL ms).length ≤ 41 := by
 have hr : ∀ l : List Mat, (∀ m ∈ l, GoodMat m) → (matsR l).length ≤ 13 * l.length + 1 := by
  intro l
  induction l with
  | nil => intro _; simp [matsR]
  | cons m l ih =>
   intro hm
   have h1 := gmat_len (hm m (by simp))
   have h2 := ih fun x hx => hm x (by simp [hx])
   rw [matsR]
   simp only [List.length_append, List.length_cons]
   omega
 cases ms with
 | nil => simp [matsL]
 | cons m ms =>
  have h1 := gmat_len (h m (by simp))
  have h2 := hr ms fun x hx => h x (by simp [hx])
  rw [matsL]
  simp only [List.length_append, List.length_cons] at hl ⊢
  omega
theorem gbys_len {l : List ByteArray} (h : l.Sublist namesL) : (bysL l).length ≤ 40 := by
 have hl : l.length ≤ 6 := by simpa [namesL] using h.length_le
 have hx : ∀ x ∈ l, x.data.toList.length ≤ 4 := fun x hx => namesL_sz x (h.subset hx)
 have hr : ∀ l : List ByteArray, (∀ x ∈ l, x.data.toList.length ≤ 4) → (bysR l).length ≤ 5 * l.length + 1 := by
  intro l
  induction l with
  | nil => intro _; simp [bysR]
  | cons x l ih =>
   intro hm
   have h1 := hm x (by simp)
   have h2 := ih fun y hy => hm y (by simp [hy])
   rw [bysR]
   simp only [List.length_append, List.length_cons]
   omega
 cases l with
 | nil => simp [bysL]
 | cons x xs =>
  have h1 := hx x (by simp)
  have h2 := hr xs fun y hy => hx y (by simp [hy])
  rw [bysL]
  simp only [List.length_append, List.length_cons, List.length_nil] at hl ⊢
  omega
theorem fun_sz (k : Nat) : (funcsT.getD k []).length ≤ 8 := by
 rw [List.getD_eq_getElem?_getD]
 match k with
 | 0 => decide
 | 1 => decide
 | 2 => decide
 | 3 => decide
 | 4 => decide
 | 5 => decide
 | 6 => decide
 | 7 => decide
 | n + 8 => simp [funcsT]
theorem gnode_len {ns : List ByteArray} {most : Int} (hn : NamesOk ns) (hm : most ≤ 4096) {d : Nd} {n : Nat} (h : GoodN ns most d n) : (d.kind = 0 → (numL d.num d.den).length ≤ 160) ∧ (d.kind = 1 → (selL d).length ≤ 160) ∧ (d.kind = 2 → (grpL d).length ≤ 90) ∧ (d.kind = 0 → natE d.num d.den = true) := by
 cases h with
 | num x hx =>
  have hz : natE x 1 = true := by
   unfold numsL at hx
   unfold natE
   simp only [List.mem_cons, List.not_mem_nil, or_false] at hx
   simp only [Bool.and_eq_true, decide_eq_true_eq, beq_self_eq_true, true_and]
   omega
  refine ⟨fun _ => ?_, fun h => by simp at h, fun h => by simp at h, fun _ => hz⟩
  have hb : 0 ≤ x ∧ x ≤ 1073741824 := by unfold natE at hz; simpa using hz
  unfold numL
  simp only
  rw [if_pos hz]
  have := itoa_sz x (by omega) (by omega)
  omega
 | sel fn win off k nm ms h1 h2 hnm ho ho2 hw hk hl hms =>
  refine ⟨fun h => by simp at h, fun _ => ?_, fun h => by simp at h, fun h => by simp at h⟩
  have z1 := (hn nm hnm).2.2
  rw [← data_size] at z1
  have z2 := gmats_len hms hl
  have z3 := fun_sz fn.toNat
  have z4 : (Lib.itoa off).length ≤ 21 := itoa_sz off (by omega) (by omega)
  have z5 : (Lib.itoa win).length ≤ 21 := itoa_sz win (by omega) (by omega)
  have z6 : (Lib.itoa k).length ≤ 21 := itoa_sz k (by omega) (by omega)
  unfold selL funL offL
  simp only [List.length_append]
  have z7 : (if fn = 0 then ([] : List UInt8) else 46 :: (funcsT.getD fn.toNat [] ++ (40 :: (Lib.itoa win ++ ((if fn = 7 then 44 :: Lib.itoa k else []) ++ [41]))))).length ≤ 60 := by
   split
   ·simp
   ·split <;> simp only [List.length_append, List.length_cons, List.length_nil] <;> omega
  have z8 : (if off = 0 then ([] : List UInt8) else 64 :: Lib.itoa off).length ≤ 22 := by
   split
   ·simp
   ·simp only [List.length_cons]; omega
  omega
 | grp fn k bys h1 h2 hk hb =>
  refine ⟨fun h => by simp at h, fun h => by simp at h, fun _ => ?_, fun h => by simp at h⟩
  have z1 := gbys_len hb
  have z2 := grpSz fn.toNat
  have z3 : (Lib.itoa k).length ≤ 21 := itoa_sz k (by omega) (by omega)
  unfold grpL
  simp only [List.length_append]
  have z7 : (if fn = 4 then 40 :: (Lib.itoa k ++ [41]) else if bys.isEmpty then ([] : List UInt8) else [32]).length ≤ 23 := by
   split
   ·simp only [List.length_append, List.length_cons, List.length_nil]; omega
   ·split <;> simp
  omega
 | bin fn h1 h2 => exact ⟨fun h => by simp at h, fun h => by simp at h, fun h => by simp at h, fun h => by simp at h⟩
theorem good_show {ns : List ByteArray} {most : Int} (hn : NamesOk ns) (hm : most ≤ 4096) {t : Tree} (h : GoodT ns most t) : (showT t).length ≤ 100 * nds t + 60 ∧ natT t = true := by
 induction h with
 | mk d ks hd hk ih =>
  have h1 := good_chk1 hd hn hm
  obtain ⟨n0, n1, n2, n3⟩ := gnode_len hn hm hd
  have hnat : natT (.node d ks) = true := by
   rw [natT]
   have a : (!(d.kind == 0) || natE d.num d.den) = true := by
    by_cases h0 : d.kind = 0
    ·rw [n3 h0]; simp
    ·simp [h0]
   rw [a, Bool.true_and]
   clear hd h1 hk n0 n1 n2 n3 a
   induction ks with
   | nil => rfl
   | cons x xs ihx => rw [natL, (ih x (by simp)).2, ihx fun t ht => ih t (by simp [ht])]; rfl
  refine ⟨?_, hnat⟩
  rw [showT, nds]
  unfold joinN
  rcases shape_cases (chk1_all h1).1 with hk' | hk' | hk' | hk'
  ·rw [if_pos hk'.1]; have := n0 hk'.1; omega
  ·rw [if_neg (by omega), if_pos hk'.1]; have := n1 hk'.1; omega
  ·rw [if_neg (by omega), if_neg (by omega), if_pos hk'.1]
   match ks, hk'.2.1 with
   | [t], _ =>
    have := (ih t (by simp)).1
    have h3 := n2 hk'.1
    simp only [showL, ndsL, List.headD_cons, List.length_append, List.length_cons, List.length_nil]
    omega
  ·rw [if_neg (by omega), if_neg (by omega), if_neg (by omega)]
   match ks, hk'.2.1 with
   | [a, b], _ =>
    have i1 := (ih a (by simp)).1
    have i2 := (ih b (by simp)).1
    have e1 := encl_len (decide (precT a.d < precT d)) (showT a)
    have e2 := encl_len (decide (precT b.d ≤ precT d)) (showT b)
    have o1 := oprSz d.fn.toNat
    simp only [showL, ndsL, List.map_cons, List.map_nil, List.length_append]
    omega
end
end Go.Proofs.YthoibeajhdhdhaaGreatDoor
