/- Contracts, packed: Ky Lh Ma. -/
import Derived.Test.YthoibeajhdhdhaaDoorPn33
import Derived.Test.YthoibeajhdhdhaaDoorPn37
import Derived.Test.YthoibeajhdhdhaaDoorPn38
import Derived.Recover
import Derived.Tactics2
set_option linter.unusedVariables false
set_option linter.unusedSimpArgs false
namespace Go.Proofs.YthoibeajhdhdhaaDoor
section
open Go.RowKit FracM

theorem blk11v {w : World} {b : Nat} {t : TypeId} {v0 v1 v2 v3 v4 v5 v6 v7 v8 v9 v10 : Value} (h : Blk w b t #[v0, v1, v2, v3, v4, v5, v6, v7, v8, v9, v10]) : w.cell? ⟨b, 0, none⟩ = some v0 ∧ w.cell? ⟨b, 1, none⟩ = some v1 ∧ w.cell? ⟨b, 2, none⟩ = some v2 ∧ w.cell? ⟨b, 3, none⟩ = some v3 ∧ w.cell? ⟨b, 4, none⟩ = some v4 ∧ w.cell? ⟨b, 5, none⟩ = some v5 ∧ w.cell? ⟨b, 6, none⟩ = some v6 ∧ w.cell? ⟨b, 7, none⟩ = some v7 ∧ w.cell? ⟨b, 8, none⟩ = some v8 ∧ w.cell? ⟨b, 9, none⟩ = some v9 ∧ w.cell? ⟨b, 10, none⟩ = some v10 := by
  unfold Blk at h
  refine ⟨?_, ?_, ?_, ?_, ?_, ?_, ?_, ?_, ?_, ?_, ?_⟩ <;> simp [World.cell?, h]
theorem put11_blkv {W : World} {o : Nat} {t : TypeId} {v0 v1 v2 v3 v4 v5 v6 v7 v8 v9 v10 u0 u1 u2 u3 u4 u5 u6 u7 u8 u9 u10 : Value} (h : Blk W o t #[v0, v1, v2, v3, v4, v5, v6, v7, v8, v9, v10]) : Blk (put11 W o u0 u1 u2 u3 u4 u5 u6 u7 u8 u9 u10) o t #[u0, u1, u2, u3, u4, u5, u6, u7, u8, u9, u10] := by
  unfold put11
  have := ((((((((((h.set 0 u0).set 1 u1).set 2 u2).set 3 u3).set 4 u4).set 5 u5).set 6 u6).set 7 u7).set 8 u8).set 9 u9).set 10 u10
  simpa using this
set_option maxRecDepth 100000 in
set_option maxHeartbeats 4000000 in
theorem pcatch_fail (ps pe pa pr B : Nat) (f : Int × Int) (s : ByteArray) (w : World) (cs0 : Array Value) (v0 v1 v2 v3 v4 v5 v6 v7 v8 v9 v10 : Value) (a0 e0 : Value) (hs : w.cell? ⟨ps, 0, none⟩ = some (.string s))
    (he : Blk w pe 29 #[v0, v1, v2, v3, v4, v5, v6, v7, v8, v9, v10]) (ha : Blk w pa 3 #[a0]) (hr : Blk w pr 31 #[e0]) (n1 : pe ≠ pa) (n2 : pe ≠ pr) (n3 : pa ≠ pr) (hB : B ≤ pe ∧ B ≤ pa ∧ B ≤ pr ∧ B ≤ w.heap.size) :
    CallsD Tryd.prog 22 #[.pointer (some ⟨ps, 0, none⟩), .pointer (some ⟨pe, 0, none⟩), .pointer (some ⟨pa, 0, none⟩), .pointer (some ⟨pr, 0, none⟩)] (.panicking [{ v := .iface 59 (.agg #[.int .i64 f.1, .int .i64 f.2]), recovered := false }]) w fun e u' w' =>
      e = .returned (.tuple #[]) ∧ u' = .panicking [{ v := .iface 59 (.agg #[.int .i64 f.1, .int .i64 f.2]), recovered := true }] ∧ Blk w' pe 29 zeroC ∧ Blk w' pa 3 #[.int .i64 f.1] ∧ Blk w' pr 31 #[.int .i64 f.2] ∧ Below B w w' := by
  refine callsD_of_wpS Tryd.func22 rfl fun c₀ cs hu => ?_
  apply wpS_seq
  apply wpS_region
  simp [wpOpsS, go_sem, recoverD, hu, Tryd.ntmps22, Exit.thenS]
  refine wpS_of_wp ?_
  simp only [Array.replicate_succ, Array.replicate_zero, List.push_toArray, List.append_toArray, List.nil_append, List.cons_append, List.setIfInBounds_toArray, List.set_cons_succ, List.set_cons_zero]
  have hta : ∀ W : World, (Instr.typeAssert (.iface 59 (.agg #[.int .i64 f.1, .int .i64 f.2])) 20 59 true).run Tryd.prog W = .ok (.tuple #[.agg #[.int .i64 f.1, .int .i64 f.2], .bool true]) W := fun _ => by kernel_rfl
  have HW : Box (Blk (w.alloc (.cells #[.int .i64 f.1, .int .i64 f.2] 59)) pe 29 #[v0, v1, v2, v3, v4, v5, v6, v7, v8, v9, v10] ∧ Blk (w.alloc (.cells #[.int .i64 f.1, .int .i64 f.2] 59)) pa 3 #[a0] ∧ Blk (w.alloc (.cells #[.int .i64 f.1, .int .i64 f.2] 59)) pr 31 #[e0] ∧ Blk (w.alloc (.cells #[.int .i64 f.1, .int .i64 f.2] 59)) w.heap.size 59 #[.int .i64 f.1, .int .i64 f.2] ∧ Below w.heap.size w (w.alloc (.cells #[.int .i64 f.1, .int .i64 f.2] 59))) := ⟨he.alloc _, ha.alloc _, hr.alloc _, Blk.new _ _ _, bel1 _ _⟩
  have l1 := he.lt
  have l2 := ha.lt
  have l3 := hr.lt
  have m1 : ¬ w.heap.size = pe := by omega
  have m2 : ¬ w.heap.size = pa := by omega
  have m3 : ¬ w.heap.size = pr := by omega
  have m4 : ¬ pa = pe := fun h => n1 h.symm
  have m5 : ¬ pr = pe := fun h => n2 h.symm
  have m6 : ¬ pr = pa := fun h => n3 h.symm
  have m7 : ¬ pe = pa := n1
  have m8 : ¬ pe = pr := n2
  have m9 : ¬ pa = pr := n3
  clear he ha hr hs
  go_upto_region 5 with (fail)
  clear hta
  generalize w.alloc (.cells #[.int .i64 f.1, .int .i64 f.2] 59) = W1 at HW ⊢
  generalize hfb : w.heap.size = fb at *
  obtain ⟨x0, x1, x2, x3, x4, x5, x6, x7, x8, x9, x10⟩ := blk11v HW.out.1
  have ha0 := HW.out.2.1.c1
  have hr0 := HW.out.2.2.1.c1
  obtain ⟨f0, f1⟩ := HW.out.2.2.2.1.c2
  have ef := HW.out.1.frozen
  have af := HW.out.2.1.frozen
  have rf := HW.out.2.2.1.frozen
  go_region
  have HF : Box (Blk ((((put11 W1 pe (.int .i64 0) (.int .i64 0) (.int .i64 0) (.int .i64 0) (.int .i64 0) (.int .i64 0) (.int .i64 0) (.string ⟨#[]⟩) nilV nilV nilV).setCell ⟨pa, 0, none⟩ (.int .i64 f.1)).setCell ⟨pr, 0, none⟩ (.int .i64 f.2)).drew) pe 29 zeroC ∧ Blk ((((put11 W1 pe (.int .i64 0) (.int .i64 0) (.int .i64 0) (.int .i64 0) (.int .i64 0) (.int .i64 0) (.int .i64 0) (.string ⟨#[]⟩) nilV nilV nilV).setCell ⟨pa, 0, none⟩ (.int .i64 f.1)).setCell ⟨pr, 0, none⟩ (.int .i64 f.2)).drew) pa 3 #[.int .i64 f.1] ∧ Blk ((((put11 W1 pe (.int .i64 0) (.int .i64 0) (.int .i64 0) (.int .i64 0) (.int .i64 0) (.int .i64 0) (.int .i64 0) (.string ⟨#[]⟩) nilV nilV nilV).setCell ⟨pa, 0, none⟩ (.int .i64 f.1)).setCell ⟨pr, 0, none⟩ (.int .i64 f.2)).drew) pr 31 #[.int .i64 f.2] ∧ Below B w ((((put11 W1 pe (.int .i64 0) (.int .i64 0) (.int .i64 0) (.int .i64 0) (.int .i64 0) (.int .i64 0) (.int .i64 0) (.string ⟨#[]⟩) nilV nilV nilV).setCell ⟨pa, 0, none⟩ (.int .i64 f.1)).setCell ⟨pr, 0, none⟩ (.int .i64 f.2)).drew)) := ⟨by
    have b1 := put11_only (W := W1) (o := pe) (.int .i64 0) (.int .i64 0) (.int .i64 0) (.int .i64 0) (.int .i64 0) (.int .i64 0) (.int .i64 0) (.string ⟨#[]⟩) nilV nilV nilV
    have z1 : Blk (put11 W1 pe (.int .i64 0) (.int .i64 0) (.int .i64 0) (.int .i64 0) (.int .i64 0) (.int .i64 0) (.int .i64 0) (.string ⟨#[]⟩) nilV nilV nilV) pe 29 zeroC := put11_blkv HW.out.1
    have za := b1.blk HW.out.2.1 m4
    have zr := b1.blk HW.out.2.2.1 m5
    have zb := (HW.out.2.2.2.2.mono hB.2.2.2).trans (b1.below (B := B) hB.1 (by have := HW.out.2.2.2.2.size; omega))
    generalize put11 W1 pe (.int .i64 0) (.int .i64 0) (.int .i64 0) (.int .i64 0) (.int .i64 0) (.int .i64 0) (.int .i64 0) (.string ⟨#[]⟩) nilV nilV nilV = W2 at *
    refine ⟨Blk.drewN ((z1.far (p := ⟨pa, 0, none⟩) m7 _).far (p := ⟨pr, 0, none⟩) m8 _) 1, Blk.drewN (Blk.far (p := ⟨pr, 0, none⟩) (by simpa using za.set 0 (.int .i64 f.1)) m9 _) 1, Blk.drewN (by have := (zr.far (p := ⟨pa, 0, none⟩) m6 (.int .i64 f.1)).set 0 (.int .i64 f.2); simpa using this) 1, bdrew ((zb.setCell (p := ⟨pa, 0, none⟩) hB.2.1 _).setCell (p := ⟨pr, 0, none⟩) hB.2.2.1 _) 1⟩⟩
  exact ⟨rfl, _, rfl, _, results_none rfl _ _ _, rfl, rfl, HF.out.1, HF.out.2.1, HF.out.2.2.1, HF.out.2.2.2⟩
end
section
open Go.RowKit FracM

theorem lexM_len : ∀ (n i : Nat) (l : List UInt8), (lexM n i l).1.length ≤ l.length := by
  intro n
  induction n with
  | zero => intro i l; simp [lexM]
  | succ n ih =>
    intro i l
    cases l with
    | nil => simp [lexM]
    | cons c r =>
      rw [lexM]
      split
      · have := ih (i + 1) r
        simp only [List.length_cons]
        omega
      · split
        · next h =>
          have hp := tok_pos h
          have := ih (i + (tokM i c r).2.2) ((c :: r).drop (tokM i c r).2.2)
          simp only [List.length_cons, List.length_drop] at this ⊢
          omega
        · simp
theorem Lx_nil : Lx [] [] := fun n i _ => by cases n <;> exact ⟨[], rfl, rfl⟩
/-- Parse undoes Print -/
theorem parse_show {t : Tree} (hc : chk t = 0) (hp : prtB t = true) (hl : (showT t).length ≤ 2000) (hf : fitB (norm t) = true) : parseT (showT t) = (norm t, 0, 0) := by
  have hx := Lx_show t hc hp [] [] (nh_nil _) Lx_nil
  simp only [List.append_nil] at hx
  obtain ⟨T, h1, h2⟩ := hx (showT t).length 0 (Nat.le_refl _)
  have hlen : (toksT t).length < (showT t).length + 1 := by
    have := lexM_len (showT t).length 0 (showT t)
    rw [h1] at this
    simp only at this
    rw [← h2, List.length_map]
    omega
  obtain ⟨us, h3, h4⟩ := expr_done ((back_all t hc).expr (showT t).length ((showT t).length + 1) T [] hlen (by simpa using h2) ⟨⟨rfl, rfl, rfl⟩, rfl, rfl⟩) ⟨⟨⟨rfl, rfl, rfl⟩, rfl, rfl⟩, rfl, rfl⟩
  have hu : us = [] := by simpa using h4
  subst hu
  unfold parseT
  rw [if_neg (by omega), h1]
  simp only [↓reduceIte]
  rw [show exprOf (facM ↑(showT t).length ((showT t).length + 1)) T = .ok (norm t, []) from h3]
  simp only
  rw [if_pos hf]
end
section
open Go.RowKit FracM

def frcT (n d : Int) : Tree := .node ⟨0, 0, 0, 0, 0, n, d, ⟨#[]⟩, [], []⟩ []
/-- a valid fraction whose numbers can be written -/
structure FOk (n d : Int) : Prop where
  v : validB n d = true
  n1 : -1073741824 ≤ n
  n2 : n ≤ 1073741824
  d1 : 1 ≤ d
  d2 : d ≤ 1073741824
theorem fok_new {p q : Int} (h1 : -1073741824 ≤ p) (h2 : p ≤ 1073741824) (h3 : 1 ≤ q) (h4 : q ≤ 1073741824) : ∃ n d, newF p q = (n, d, 0) ∧ FOk n d := by
  rw [newF_pos (by omega) (by omega) (by omega)]
  obtain ⟨n, d, h⟩ := low_small (p := p) (q := q.natAbs) (by unfold M; omega) (by unfold M; omega)
  have hv := low_valid (by omega) h
  suffices hs : (-1073741824 ≤ n ∧ n ≤ 1073741824) ∧ (1 ≤ d ∧ d ≤ 1073741824) from ⟨n, d, h, hv, hs.1.1, hs.1.2, hs.2.1, hs.2.2⟩
  clear hv
  unfold low at h
  split at h
  · obtain ⟨rfl, hd⟩ := Prod.mk.inj h
    obtain ⟨rfl, _⟩ := Prod.mk.inj hd
    have a1 : p.natAbs / Nat.gcd p.natAbs q.natAbs ≤ p.natAbs := Nat.div_le_self _ _
    have a2 : q.natAbs / Nat.gcd p.natAbs q.natAbs ≤ q.natAbs := Nat.div_le_self _ _
    have a3 : 0 < q.natAbs / Nat.gcd p.natAbs q.natAbs := Nat.div_pos (Nat.le_of_dvd (by omega) (Nat.gcd_dvd_right _ _)) (Nat.gcd_pos_of_pos_right _ (by omega))
    have a4 : (p.sign * ((p.natAbs / Nat.gcd p.natAbs q.natAbs : Nat) : Int)).natAbs ≤ p.natAbs / Nat.gcd p.natAbs q.natAbs := by
      rw [Int.natAbs_mul, Int.natAbs_natCast]
      have : p.sign.natAbs ≤ 1 := by
        rcases Int.lt_trichotomy p 0 with h | h | h
        · rw [Int.sign_eq_neg_one_of_neg h]; decide
        · subst h; decide
        · rw [Int.sign_eq_one_of_pos h]; decide
      exact Nat.le_trans (Nat.mul_le_mul_right _ this) (by omega)
    generalize p.natAbs / Nat.gcd p.natAbs q.natAbs = x at *
    generalize q.natAbs / Nat.gcd p.natAbs q.natAbs = y at *
    generalize p.sign * (x : Int) = z at *
    omega
  · simp at h
theorem valid_int {n : Int} (h : n.natAbs ≤ M) : validB n 1 = true := valid_iff.2 ⟨by omega, by unfold M; omega, h, by simp⟩
theorem div_ints {a d : Int} (h : FOk a d) : divF a 1 d 1 = (a, d, 0) := by
  obtain ⟨v, h1, h2, h3, h4⟩ := h
  obtain ⟨_, _, _, hg⟩ := valid_iff.1 v
  unfold divF
  rw [valid_int (n := a) (by unfold M; omega), valid_int (n := d) (by unfold M; omega)]
  simp only [Bool.and_self, if_true]
  rw [if_neg (by omega), if_neg (by omega)]
  unfold mulF
  rw [valid_int (n := a) (by unfold M; omega), show validB 1 d = true from valid_iff.2 ⟨h3, by unfold M; omega, by unfold M; omega, by simp⟩]
  simp only [Bool.and_self, if_true, Int.mul_one, Int.one_mul]
  exact low_self v
theorem sub_zero {a d : Int} (h : FOk a d) : addF 0 1 (-a) d = (-a, d, 0) := by
  obtain ⟨v, h1, h2, h3, h4⟩ := h
  unfold addF
  rw [valid_int (n := 0) (by unfold M; omega), valid_neg, v]
  simp only [Bool.and_self, if_true, Int.mul_one, Int.one_mul, Int.zero_mul, Int.zero_add]
  exact low_self (by rw [valid_neg]; exact v)
theorem FOk.abs {n d : Int} (h : FOk n d) : FOk (absI n) d ∧ 0 ≤ absI n := by
  obtain ⟨v, h1, h2, h3, h4⟩ := h
  unfold absI
  split
  · exact ⟨⟨by rw [valid_neg]; exact v, by omega, by omega, h3, h4⟩, by omega⟩
  · exact ⟨⟨v, h1, h2, h3, h4⟩, by omega⟩
theorem FOk.num {n : Int} (h0 : -1073741824 ≤ n) (h1 : n ≤ 1073741824) : FOk n 1 := ⟨valid_int (by unfold M; omega), h0, h1, by omega, by omega⟩
theorem frac_chk {n d : Int} (h : FOk n d) : chk (frcT n d) = 0 := by
  obtain ⟨v, h1, h2, h3, h4⟩ := h
  unfold frcT
  rw [chk]
  have hc : chk1 ⟨0, 0, 0, 0, 0, n, d, ⟨#[]⟩, [], []⟩ 0 = 0 := by
    unfold chk1 shapedB namedB rangedB noSelB bysB
    simp [v, bysFrom]
  simp only [List.length_nil]
  rw [hc, if_pos rfl, chkL]
theorem num_len (n d : Int) (h0 : -1073741824 ≤ n) (h1 : n ≤ 1073741824) (h2 : 1 ≤ d) (h3 : d ≤ 1073741824) : (numL n d).length ≤ 60 := by
  unfold numL numB
  have z1 := itoa_sz n (by omega) (by omega)
  have z2 := itoa_sz d (by omega) (by omega)
  have z3 := itoa_sz (absI n) (by unfold absI; split <;> omega) (by unfold absI; split <;> omega)
  split
  · omega
  · split <;> split <;> simp only [List.length_append, List.length_cons, List.length_nil] <;> omega
theorem frac_show (n d : Int) : showT (frcT n d) = numL n d := by
  unfold frcT
  rw [showT]
  unfold joinN
  rw [if_pos rfl]
theorem frac_prt {n d : Int} (h : FOk n d) : prtB (frcT n d) = true := by
  obtain ⟨v, h1, h2, h3, h4⟩ := h
  unfold frcT
  rw [prtB, if_pos rfl]
  unfold writB
  simp only [Bool.and_eq_true, decide_eq_true_eq]
  omega
theorem norm_fit (n d : Int) : nds (normN n d) ≤ 5 ∧ dep (normN n d) ≤ 3 := by
  unfold normN binT numT
  split
  · simp [nds, ndsL, dep, depL]
  · split <;> split <;> simp [nds, ndsL, dep, depL]
theorem frac_norm (n d : Int) : norm (frcT n d) = normN n d := by
  unfold frcT
  rw [norm, if_pos rfl]
/-- alone -/
theorem frac_round {n d : Int} (h : FOk n d) : printT (frcT n d) = (showT (frcT n d), 0) ∧ parseT (showT (frcT n d)) = (normN n d, 0, 0) ∧ (showT (frcT n d)).length ≤ 2000 := by
  have hl : (showT (frcT n d)).length ≤ 2000 := by rw [frac_show]; have := num_len n d h.n1 h.n2 h.d1 h.d2; omega
  have hf : fitB (norm (frcT n d)) = true := by rw [frac_norm]; have := norm_fit n d; unfold fitB; simp only [Bool.and_eq_true, decide_eq_true_eq]; omega
  have hp := parse_show (frac_chk h) (frac_prt h) hl hf
  rw [frac_norm] at hp
  refine ⟨?_, hp, hl⟩
  have hv : validE (frcT n d) = 0 := by
    unfold validE
    rw [show fitB (frcT n d) = true by unfold fitB frcT; simp [nds, ndsL, dep, depL]]
    exact frac_chk h
  unfold printT
  rw [if_pos hv, if_neg (by rw [frac_prt h]; simp), if_neg (by omega)]
def divT (n d : Int) : Tree := binT 3 (frcT 1 1) (frcT n d)
theorem one_ok : FOk 1 1 := FOk.num (by omega) (by omega)
theorem div_chk {n d : Int} (h : FOk n d) : chk (divT n d) = 0 := by
  unfold divT binT
  rw [chk]
  have hc : chk1 ⟨3, ((3 : Nat) : Int), 0, 0, 0, 0, 0, ⟨#[]⟩, [], []⟩ 2 = 0 := by decide +kernel
  simp only [List.length_cons, List.length_nil, Nat.zero_add, Nat.reduceAdd]
  rw [hc, if_pos rfl, chkL, if_pos (frac_chk one_ok), chkL, if_pos (frac_chk h), chkL]
theorem div_norm (n d : Int) : norm (divT n d) = binT 3 (numT 1) (normN n d) := by
  unfold divT binT
  rw [norm, if_neg (by decide), normL, normL, normL, frac_norm, frac_norm]
  rfl
theorem div_show {n d : Int} (h : FOk n d) : (showT (divT n d)).length ≤ 300 := by
  unfold divT binT
  rw [showT, showL, showL, showL, frac_show, frac_show]
  have z1 := num_len 1 1 (by omega) (by omega) (by omega) (by omega)
  have z2 := num_len n d h.n1 h.n2 h.d1 h.d2
  unfold joinN
  rw [if_neg (by decide), if_neg (by decide), if_neg (by decide)]
  simp only [List.map_cons, List.map_nil, frcT, Tree.d]
  have e1 := encl_len (decide (precT ⟨0, 0, 0, 0, 0, 1, 1, ⟨#[]⟩, [], []⟩ < precT ⟨3, ((3 : Nat) : Int), 0, 0, 0, 0, 0, ⟨#[]⟩, [], []⟩)) (numL 1 1)
  have e2 := encl_len (decide (precT ⟨0, 0, 0, 0, 0, n, d, ⟨#[]⟩, [], []⟩ ≤ precT ⟨3, ((3 : Nat) : Int), 0, 0, 0, 0, 0, ⟨#[]⟩, [], []⟩)) (numL n d)
  have o1 := oprSz (Int.toNat ((3 : Nat) : Int))
  simp only [List.length_append]
  omega
/-- behind a division -/
theorem div_round {n d : Int} (h : FOk n d) : printT (divT n d) = (showT (divT n d), 0) ∧ parseT (showT (divT n d)) = (binT 3 (numT 1) (normN n d), 0, 0) ∧ (showT (divT n d)).length ≤ 2000 := by
  have hl : (showT (divT n d)).length ≤ 2000 := by have := div_show h; omega
  have hf : fitB (norm (divT n d)) = true := by
    rw [div_norm]
    have := norm_fit n d
    unfold fitB binT numT
    simp only [nds, ndsL, dep, depL, Bool.and_eq_true]
    exact ⟨decide_eq_true (by omega), decide_eq_true (by omega)⟩
  have hpr : prtB (divT n d) = true := by
    unfold divT binT
    rw [prtB, if_neg (by decide), prtL, prtL, prtL, frac_prt one_ok, frac_prt h]
    rfl
  have hp := parse_show (div_chk h) hpr hl hf
  rw [div_norm] at hp
  refine ⟨?_, hp, hl⟩
  have hv : validE (divT n d) = 0 := by
    unfold validE
    rw [show fitB (divT n d) = true by unfold fitB divT binT frcT; simp [nds, ndsL, dep, depL]]
    exact div_chk h
  unfold printT
  rw [if_pos hv, if_neg (by rw [hpr]; simp), if_neg (by omega)]
end
end Go.Proofs.YthoibeajhdhdhaaDoor
