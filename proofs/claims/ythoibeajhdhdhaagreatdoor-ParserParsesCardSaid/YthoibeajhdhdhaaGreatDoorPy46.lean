/- Contracts, packed: Op Oq Jh Jn Jo Jl Fa. -/
import Derived.Test.YthoibeajhdhdhaaGreatDoorPy2
import Derived.Test.YthoibeajhdhdhaaGreatDoorPy22
import Derived.Test.YthoibeajhdhdhaaGreatDoorPy23
import Derived.Test.YthoibeajhdhdhaaGreatDoorPy24
import Derived.Test.YthoibeajhdhdhaaGreatDoorPy25
import Derived.Test.YthoibeajhdhdhaaGreatDoorPy31
import Derived.Test.YthoibeajhdhdhaaGreatDoorPy43
import Derived.Test.YthoibeajhdhdhaaGreatDoorPy44
import Derived.Test.YthoibeajhdhdhaaGreatDoorPy45
import Derived.RegionTactic
import Derived.ChangeAlike
set_option linter.unusedVariables false
set_option linter.unusedSimpArgs false
namespace Go.Proofs.YthoibeajhdhdhaaGreatDoor
section
open Go.RowKit FracM
theorem tokM_wf {i : Nat} {c : UInt8} {r : List UInt8} (h : (tokM i c r).1 = 0) : TokWf (tokM i c r).2.1 := by
 unfold tokM at *
 by_cases h1 : letB c
 ·rw [if_pos h1]
  refine ⟨fun _ => ⟨c, r.takeWhile wrdB, ?_, h1⟩, fun h => ?_⟩
  ·show (c :: r).takeWhile wrdB = _
   rw [List.takeWhile_cons, if_pos (by unfold wrdB; rw [h1]; rfl)]
  ·exact absurd h (by show ¬ (0 : Int) = 3; decide)
 rw [if_neg h1] at h ⊢
 by_cases h2 : digB c
 ·rw [if_pos h2]
  exact ⟨fun h => absurd h (by show ¬ (1 : Int) = 0; decide), fun h => absurd h (by show ¬ (1 : Int) = 3; decide)⟩
 rw [if_neg h2] at h ⊢
 by_cases h3 : c.toNat = 34
 ·rw [if_pos h3] at h ⊢
  unfold tokT at *
  split
  ·next q => rw [if_pos q] at h; simp at h
  ·next q =>
   rw [if_neg q] at h
   split
   ·exact ⟨fun h => absurd h (by show ¬ (2 : Int) = 0; decide), fun h => absurd h (by show ¬ (2 : Int) = 3; decide)⟩
   ·next q2 => rw [if_neg q2] at h; simp at h
 rw [if_neg h3] at h ⊢
 unfold tokS at *
 by_cases h4 : symN (c :: r) = 0
 ·simp only at h; rw [if_pos h4] at h; exact absurd h (by decide)
 ·refine ⟨fun h => absurd h (by show ¬ (3 : Int) = 0; decide), fun _ => ⟨c, r.take (symN (c :: r) - 1), ?_, by simpa using h1⟩⟩
  show (c :: r).take (symN (c :: r)) = _
  obtain ⟨n, hn⟩ : ∃ n, symN (c :: r) = n + 1 := ⟨symN (c :: r) - 1, by omega⟩
  rw [hn]; rfl
theorem lexM_wf : ∀ (n i : Nat) (l : List UInt8), ∀ t ∈ (lexM n i l).1, TokWf t := by
 intro n
 induction n with
 | zero => intro i l t ht; simp [lexM] at ht
 | succ n ih =>
  intro i l
  cases l with
  | nil => intro t ht; simp [lexM] at ht
  | cons c r =>
   rw [lexM]
   split
   ·exact ih (i + 1) r
   ·split
    ·next he =>
     intro t ht
     rcases List.mem_cons.1 ht with rfl | ht
     ·exact tokM_wf he
     ·exact ih _ _ t ht
    ·intro t ht; simp at ht
end
section
open Go.RowKit FracM
theorem depL_nds (ks : List Tree) (h : ∀ t ∈ ks, dep t ≤ nds t) : depL ks ≤ ndsL ks := by
 induction ks with
 | nil => simp [depL, ndsL]
 | cons t r ih =>
  have h1 := h t (by simp)
  have h2 := ih fun x hx => h x (by simp [hx])
  rw [depL, ndsL]
  omega
theorem dep_nds : ∀ t, dep t ≤ nds t := Tree.ind fun d ks ih => by
 have := depL_nds ks ih
 rw [dep, nds]
 omega
/-- no more nodes than tokens read -/
def Siz (M : List Tok → Res Tree) : Prop := ∀ ts t us, M ts = .ok (t, us) → nds t + us.length ≤ ts.length
theorem opLoop_siz {M : List Tok → Res Tree} (hM : Siz M) (first : Nat) : ∀ (n : Nat) (left : Tree) (ts : List Tok) (t : Tree) (us : List Tok), opLoop M first n left ts = .ok (t, us) → nds t + us.length ≤ nds left + ts.length := by
 intro n
 induction n with
 | zero => intro left ts t us h; rw [opLoop] at h; cases h; omega
 | succ n ih =>
  intro left ts t us h
  rw [opLoop] at h
  split at h
  ·next hq =>
   obtain ⟨right, ts', h1, h2⟩ := andR_ok h
   have a := hM _ _ _ h1
   have b := ih _ _ _ _ h2
   have c := isT_len hq
   unfold binT at b
   simp only [nds, ndsL] at b
   omega
  ·cases h; omega
theorem operM_siz {M : List Tok → Res Tree} (hM : Siz M) (first : Nat) : Siz (operM M first) := by
 intro ts t us h
 unfold operM at h
 obtain ⟨left, ts', h1, h2⟩ := andR_ok h
 have a := hM _ _ _ h1
 have b := opLoop_siz hM first _ _ _ _ _ h2
 omega
theorem exprOf_siz {M : List Tok → Res Tree} (hM : Siz M) : Siz (exprOf M) := operM_siz (operM_siz hM 2) 0
theorem facM_siz (N : Int) : ∀ n, Siz (facM N n) := by
 intro n
 induction n with
 | zero => intro ts t us h; unfold facM bad at h; cases h
 | succ n ih =>
  intro ts t us h
  unfold facM at h
  split at h
  ·next hq =>
   cases h
   have := kindT_len hq
   unfold numT
   simp only [nds, ndsL]
   omega
  ·split at h
   ·next hq =>
    obtain ⟨t', ts1, h1, h2⟩ := andR_ok h
    obtain ⟨_, ts2, h3, h4⟩ := andR_ok h2
    cases h4
    have a := exprOf_siz ih _ _ _ h1
    have b := symbolM_len _ _ _ _ _ h3
    have c := isT_len hq
    omega
   ·split at h
    ·next hq =>
     have c := kindT_len hq
     split at h
     ·unfold groupM at h
      obtain ⟨k, ts1, h1, h⟩ := andR_ok h
      obtain ⟨l, ts2, h2, h⟩ := andR_ok h
      obtain ⟨t', ts3, h3, h⟩ := andR_ok h
      cases h
      unfold gKidM at h3
      obtain ⟨_, ts4, h4, h3⟩ := andR_ok h3
      obtain ⟨t'', ts5, h5, h3⟩ := andR_ok h3
      obtain ⟨_, ts6, h6, h3⟩ := andR_ok h3
      cases h3
      have a1 := gKM_len _ _ _ _ _ h1
      have a2 := gByM_len _ _ _ _ h2
      have a3 := symbolM_len _ _ _ _ _ h4
      have a4 := exprOf_siz ih _ _ _ h5
      have a5 := symbolM_len _ _ _ _ _ h6
      simp only [nds, ndsL]
      omega
     ·have a := selectM_len _ _ _ _ _ h
      unfold selectM at h
      obtain ⟨l, ts1, h1, h⟩ := andR_ok h
      obtain ⟨f, ts2, h2, h⟩ := andR_ok h
      obtain ⟨o, ts3, h3, h⟩ := andR_ok h
      cases h
      simp only [nds, ndsL]
      omega
    ·unfold bad at h; cases h
theorem retTk_casesW {s : ByteArray} {w w' : World} {e : Ending} (h : RetTk s w e w') : Below w.heap.size w w' ∧
    ((∃ a er : Int, er ≠ 0 ∧ e = .returned (.tuple #[.slice none 0 0, .int .i64 a, .int .i64 er]) ∧ parseT (lst s) = (zeroT, a, er)) ∨
     (s.size ≤ 2000 ∧ ∃ A n c toks, n = toks.length ∧ e = .returned (.tuple #[.slice A n c, .int .i64 0, .int .i64 0]) ∧ SeqP w' (fun b _ => w.heap.size ≤ b) 4 (.slice A n c) n (toks.flatMap tokL) ∧ ToksOk toks ∧ (∀ t ∈ toks, TokWf t) ∧ toks.length ≤ s.size ∧
       parseT (lst s) = match exprOf (facM s.size (s.size + 1)) toks with
        | .error f => (zeroT, f.1, f.2)
        | .ok (t, []) => if fitB t then (t, 0, 0) else (zeroT, (s.size : Int), 4)
        | .ok (t, x :: _) => (zeroT, (x.off : Int), 2))) := by
  obtain ⟨hb, h⟩ := h
  refine ⟨hb, ?_⟩
  have hl : (lst s).length = s.size := data_size s
  by_cases h1 : 2000 < s.size
  · rw [if_pos h1] at h
    exact .inl ⟨2000, 4, by decide, h, by unfold parseT; rw [if_pos (by rw [hl]; exact h1)]⟩
  rw [if_neg h1] at h
  by_cases h2 : (lexM s.size 0 (lst s)).2.1 = 0
  · rw [if_pos h2] at h
    obtain ⟨A, n, c, hn, he, hq⟩ := h
    obtain ⟨k1, k2⟩ := lexM_ok s.size 0 (lst s) (by rw [hl]; omega)
    refine .inr ⟨by omega, A, n, c, _, hn, he, hq, k1, lexM_wf _ _ _, by rw [hl] at k2; exact k2, ?_⟩
    unfold parseT
    rw [if_neg (by rw [hl]; exact h1), hl, if_pos h2]
    rcases exprOf (facM s.size (s.size + 1)) (lexM s.size 0 (lst s)).1 with f | ⟨t, us⟩
    · rfl
    · cases us <;> rfl
  · rw [if_neg h2] at h
    exact .inl ⟨_, _, h2, h, by unfold parseT; rw [if_neg (by rw [hl]; exact h1), hl, if_neg h2]⟩
end
section
open Go.RowKit FracM
def live1 : List UInt8 := [115, 117, 109, 32, 98, 121, 32, 40, 122, 111, 110, 101, 41, 32, 40, 114, 101, 113, 123, 99, 111, 100, 101, 94, 61, 34, 53, 34, 125, 46, 114, 97, 116, 101, 40, 54, 48, 41, 41, 32, 47, 32, 50]
def live2 : List UInt8 := [97, 46, 107, 116, 104, 40, 51, 44, 52, 41]
def liveP : List UInt8 := [115, 117, 109, 32, 98, 121, 40, 122, 111, 110, 101, 41, 40, 114, 101, 113, 123, 99, 111, 100, 101, 94, 61, 34, 53, 34, 125, 46, 114, 97, 116, 101, 40, 54, 48, 41, 41, 47, 50]
def liveT : Tree := .node ⟨3, 3, 0, 0, 0, 0, 0, ⟨#[]⟩, [], []⟩ [.node ⟨2, 0, 0, 0, 0, 0, 0, ⟨#[]⟩, [], [⟨#[122, 111, 110, 101]⟩]⟩ [.node ⟨1, 6, 60, 0, 0, 0, 0, ⟨#[114, 101, 113]⟩, [(⟨#[99, 111, 100, 101]⟩, 2, ⟨#[53]⟩)], []⟩ []], .node ⟨0, 0, 0, 0, 0, 2, 1, ⟨#[]⟩, [], []⟩ []]
theorem live_p1 : parseT live1 = (liveT, 0, 0) := by kernel_rfl
theorem live_p2 : parseT live2 = (zeroT, 8, 5) := by kernel_rfl
theorem live_pr : printT liveT = (liveP, 0) := by kernel_rfl
/-- Parse at a text whose parse is known -/
theorem parse_at (s : ByteArray) (T : Tree) (a er : Int) (w : World) (hs : s.size ≤ maxLen) (hw : WordsV w) (hp : parseT (lst s) = (T, a, er)) :
  Calls Tryz.prog 31 #[.string s] w fun e w' => ∃ mv bv kv, e = .returned (.tuple #[.agg (ndC T.d mv bv kv), .int .i64 a, .int .i64 er]) ∧ TreeAt w' (fun b _ => w.heap.size ≤ b) T (mv, bv, kv) ∧ Below w.heap.size w w' :=
 (pparse_any s w hs hw).mono fun e w' ⟨mv, bv, kv, he, hT, hb⟩ => ⟨mv, bv, kv, by rw [he, hp], by rw [hp] at hT; exact hT, hb⟩
theorem LibP.v {w : World} (h : LibP w) : WordsV w := ⟨h.grp, h.fn, h.mat, h.opr⟩
theorem print_at (T : Tree) (l : List UInt8) (er : Int) (P : Nat → Nat → Prop) (w : World) (s : Sl) (hT : TreeAt w P T s) (hl : LibP w) (hp : printT T = (l, er)) : Calls Tryz.prog 29 #[.agg (ndC T.d s.1 s.2.1 s.2.2)] w (RetB (.tuple #[.string (bsL l), .int .i64 er]) w) :=
 (pprint_any T P w s hT hl).mono fun e w' ⟨he, hb⟩ => ⟨by rw [he, hp], hb⟩
set_option maxHeartbeats 4000000 in
set_option maxRecDepth 100000 in
theorem lives_true (w : World) (hl : LibP w) : Calls Tryz.prog 16 #[] w (RetB (.bool true) w) := by
 have HL := Box.mk hl
 clear hl
 go_enter Tryz.func16, Tryz.ntmps16
 go_wp2_with fail
 refine (parse_at _ liveT 0 0 _ (by unfold maxLen; decide +kernel) HL.out.v live_p1).mono ?_
 rintro e w1 ⟨mv, bv, kv, rfl, hT, hb⟩
 have HPR : Box (printT liveT = (liveP, 0)) := ⟨live_pr⟩
 obtain ⟨T, hTe⟩ : ∃ T, liveT = T := ⟨_, rfl⟩
 rw [hTe] at hT HPR ⊢
 clear hTe
 obtain ⟨d, ks⟩ := T
 obtain ⟨A1, n1, rfl, l1⟩ := hT.nod.ms.form
 obtain ⟨A2, n2, rfl, l2⟩ := hT.nod.bys.form
 obtain ⟨A3, n3, rfl, l3⟩ := hT.nod.kform
 have HB := Box.mk hb
 have HT := Box.mk (hT.belo (bel1 w1 (.cells (ndC d (.slice A1 d.ms.length n1) (.slice A2 d.bys.length n2) (.slice A3 ks.length n3)) exT)))
 have HK : Box (Blk (w1.alloc (.cells (ndC d (.slice A1 d.ms.length n1) (.slice A2 d.bys.length n2) (.slice A3 ks.length n3)) exT)) w1.heap.size exT (ndC d (.slice A1 d.ms.length n1) (.slice A2 d.bys.length n2) (.slice A3 ks.length n3))) := ⟨Blk.new _ _ _⟩
 have HB2 : Box (Below w.heap.size w (w1.alloc (.cells (ndC d (.slice A1 d.ms.length n1) (.slice A2 d.bys.length n2) (.slice A3 ks.length n3)) exT))) := ⟨bthen hb (bel1 _ _) (Nat.le_refl _)⟩
 clear hT hb HB
 simp only [Tree.d]
 go_upto_region 2 with (fail)
 generalize w1.heap.size = g at *
 generalize w1.alloc (.cells (ndC d (.slice A1 d.ms.length n1) (.slice A2 d.bys.length n2) (.slice A3 ks.length n3)) exT) = W at *
 obtain ⟨c0, c1, c2, c3, c4, c5, c6, c7, c8, c9, c10⟩ := blk11 HK.out
 simp only [Nat.zero_add] at c1 c2 c3 c4 c5 c6 c7 c8 c9 c10
 go_wp2_with fail
 refine (print_at (.node d ks) liveP 0 _ _ (_, _, _) HT.out (HL.out.below HB2.out) HPR.out).mono ?_
 rintro e w2 ⟨rfl, hb⟩
 have HB3 : Box (Below w.heap.size w w2) := ⟨bthen HB2.out hb (Nat.le_refl _)⟩
 clear hb c0 c1 c2 c3 c4 c5 c6 c7 c8 c9 c10 HT HK HB2 HPR
 obtain ⟨z, hz⟩ : ∃ z, bsL liveP = z := ⟨_, rfl⟩
 have hz1 : (z.toList == [115, 117, 109, 32, 98, 121, 40, 122, 111, 110, 101, 41, 40, 114, 101, 113, 123, 99, 111, 100, 101, 94, 61, 34, 53, 34, 125, 46, 114, 97, 116, 101, 40, 54, 48, 41, 41, 47, 50]) = true := by rw [← hz]; decide +kernel
 rw [hz]
 clear hz
 go_wp2_with fail
 refine (parse_at _ zeroT 8 5 _ (by unfold maxLen; decide +kernel) (HL.out.below HB3.out).v live_p2).mono ?_
 rintro e w3 ⟨mv, bv, kv, rfl, hT, hb⟩
 have HB4 : Box (Below w.heap.size w w3) := ⟨bthen HB3.out hb (Nat.le_refl _)⟩
 clear hb
 obtain ⟨T, hTe⟩ : ∃ T, zeroT = T := ⟨_, rfl⟩
 rw [hTe] at hT ⊢
 clear hTe
 obtain ⟨d, ks⟩ := T
 obtain ⟨A1, n1, rfl, l1⟩ := hT.nod.ms.form
 obtain ⟨A2, n2, rfl, l2⟩ := hT.nod.bys.form
 obtain ⟨A3, n3, rfl, l3⟩ := hT.nod.kform
 clear hT
 simp only [Tree.d]
 go_upto_region 4 with (fail)
 have HB5 : Box (Below w.heap.size w (w3.alloc (.cells (ndC d (.slice A1 d.ms.length n1) (.slice A2 d.bys.length n2) (.slice A3 ks.length n3)) exT))) := ⟨bthen HB4.out (bel1 _ _) (Nat.le_refl _)⟩
 generalize w3.alloc (.cells (ndC d (.slice A1 d.ms.length n1) (.slice A2 d.bys.length n2) (.slice A3 ks.length n3)) exT) = W5 at *
 go_wp2_with fail
 go_ret
 exact ⟨rfl, HB5.out⟩
end
section
open Go.RowKit FracM
def matB (x y : Mat) : Bool := (x.1.toList == y.1.toList) && (x.2.1 == y.2.1) && (x.2.2.toList == y.2.2.toList)
def matsB : List Mat → List Mat → Bool
 | [], [] => true
 | x :: xs, y :: ys => matB x y && matsB xs ys
 | _, _ => false
def strsB : List ByteArray → List ByteArray → Bool
 | [], [] => true
 | x :: xs, y :: ys => (x.toList == y.toList) && strsB xs ys
 | _, _ => false
theorem matsB_len {xs ys : List Mat} (h : xs.length ≠ ys.length) : matsB xs ys = false := by
 induction xs generalizing ys with
 | nil => cases ys with
  | nil => simp at h
  | cons y ys => rfl
 | cons x xs ih => cases ys with
  | nil => rfl
  | cons y ys => rw [matsB, ih (by simpa using h)]; simp
theorem SeqP.mat {w : World} {P : Nat → Nat → Prop} {A : Option Addr} {n c : Nat} {l : List Mat} (h : SeqP w P 3 (.slice A n c) n (l.flatMap matCells)) (k : Nat) (x : Mat) (hx : l[k]? = some x) :
  ∃ b off, A = some ⟨b, off, none⟩ ∧ w.cell? ⟨b, off + k * 3, none⟩ = some (.string x.1) ∧ w.cell? ⟨b, off + k * 3 + 1, none⟩ = some (.int .i64 x.2.1) ∧ w.cell? ⟨b, off + k * 3 + 2, none⟩ = some (.string x.2.2) := by
 obtain ⟨hl, A', c', hv, h1, h2, h3⟩ := h
 cases hv
 have hlt := (List.getElem?_eq_some_iff.1 hx).1
 have g := fun j hj => flat_get matCells 3 (fun _ => rfl) l k j x hx hj
 have hm : 0 < n := by
  rcases Nat.eq_zero_or_pos n with h0 | h0
  ·subst h0
   have g0 := g 0 (by omega)
   rw [show l.flatMap matCells = [] from List.eq_nil_of_length_eq_zero (by rw [hl])] at g0
   simp [matCells] at g0
  ·exact h0
 obtain ⟨b, off, rfl, hb, hp, hc⟩ := h3 hm
 refine ⟨b, off, rfl, ?_, ?_, ?_⟩
 ·exact hc _ _ ((g 0 (by omega)).trans rfl)
 ·rw [Nat.add_assoc]; exact hc _ _ ((g 1 (by omega)).trans rfl)
 ·rw [Nat.add_assoc]; exact hc _ _ ((g 2 (by omega)).trans rfl)
set_option maxRecDepth 100000 in
theorem eq_mat (x0 y0 x2 y2 : ByteArray) (x1 y1 : Int) (w : World) : (Op.equalIn 10000 91 (.agg #[.string x0, .int .i64 x1, .string x2]) (.agg #[.string y0, .int .i64 y1, .string y2])).run Tryz.prog w = .ok (matB (x0, x1, x2) (y0, y1, y2)) w := by
 have hS : Tryz.prog.underlying 91 = some (.struct (Tryz.prog.fieldsOf 91)) := by kernel_rfl
 rw [show (10000 : Nat) = 9999 + 1 from rfl, run_equalIn_agg w 9999 91 _ _ hS (by kernel_rfl)]
 simp only [Program.fieldsOf, Tryz.underlying91]
 go_simp
 unfold matB
 cases h0 : (x0.toList == y0.toList) <;> cases h1 : (x1 == y1) <;> cases h2 : (x2.toList == y2.toList) <;> simp_all
theorem ba_beq (a b : ByteArray) : (a.toList == b.toList) = decide (a = b) := by
 rw [Bool.eq_iff_iff, beq_iff_eq, decide_eq_true_iff, ByteArray.toList_eq, ByteArray.toList_eq]
 exact ⟨fun h => ByteArray.ext (Array.toList_inj.mp h), fun h => by rw [h]⟩
theorem strsB_eq (xs ys : List ByteArray) : strsB xs ys = decide (xs = ys) := by
 induction xs generalizing ys with
 | nil => cases ys <;> simp [strsB]
 | cons x xs ih => cases ys with
  | nil => simp [strsB]
  | cons y ys => rw [strsB, ih, ba_beq]; simp
theorem matsB_eq (xs ys : List Mat) : matsB xs ys = decide (xs = ys) := by
 induction xs generalizing ys with
 | nil => cases ys <;> simp [matsB]
 | cons x xs ih => cases ys with
  | nil => simp [matsB]
  | cons y ys =>
   obtain ⟨x0, x1, x2⟩ := x
   obtain ⟨y0, y1, y2⟩ := y
   rw [matsB, ih, matB, ba_beq, ba_beq]
   by_cases h0 : x0 = y0 <;> by_cases h1 : x1 = y1 <;> by_cases h2 : x2 = y2 <;> simp [h0, h1, h2]
/-- equality of nodes and of trees, as the program has it -/
def ndB (d e : Nd) : Bool := (d.kind == e.kind) && ((d.fn == e.fn) && ((d.win == e.win) && ((d.off == e.off) && ((d.k == e.k) && (((d.num == e.num) && (d.den == e.den)) && ((d.name.toList == e.name.toList) && (matsB d.ms e.ms && strsB d.bys e.bys)))))))
mutual
def eqT : Tree → Tree → Bool
 | .node d ks, .node e es => ndB d e && eqL ks es
def eqL : List Tree → List Tree → Bool
 | [], [] => true
 | t :: ts, u :: us => eqT t u && eqL ts us
 | [], _ :: _ => false
 | _ :: _, [] => false
end
theorem eqL_len {xs ys : List Tree} (h : xs.length ≠ ys.length) : eqL xs ys = false := by
 induction xs generalizing ys with
 | nil => cases ys with
  | nil => simp at h
  | cons y ys => rw [eqL]
 | cons x xs ih => cases ys with
  | nil => rw [eqL]
  | cons y ys => rw [eqL, ih (by simpa using h)]; simp
theorem ndB_iff (d e : Nd) : ndB d e = true ↔ d = e := by
 obtain ⟨a0, a1, a2, a3, a4, a5, a6, a7, a8, a9⟩ := d
 obtain ⟨b0, b1, b2, b3, b4, b5, b6, b7, b8, b9⟩ := e
 unfold ndB
 simp only [ba_beq, matsB_eq, strsB_eq, Bool.and_eq_true, beq_iff_eq, decide_eq_true_eq, Nd.mk.injEq]
 constructor
 ·rintro ⟨h0, h1, h2, h3, h4, ⟨h5, h6⟩, h7, h8, h9⟩; exact ⟨h0, h1, h2, h3, h4, h5, h6, h7, h8, h9⟩
 ·rintro ⟨h0, h1, h2, h3, h4, h5, h6, h7, h8, h9⟩; exact ⟨h0, h1, h2, h3, h4, ⟨h5, h6⟩, h7, h8, h9⟩
theorem eqT_iff : ∀ t u, eqT t u = true ↔ t = u := by
 refine Tree.ind fun d ks ih u => ?_
 obtain ⟨e, es⟩ := u
 rw [eqT, Bool.and_eq_true, ndB_iff]
 have hl : ∀ (xs ys : List Tree), (∀ t ∈ xs, ∀ u, eqT t u = true ↔ t = u) → (eqL xs ys = true ↔ xs = ys) := by
  intro xs
  induction xs with
  | nil => intro ys _; cases ys <;> simp [eqL]
  | cons x xs ihx => intro ys h; cases ys with
   | nil => simp [eqL]
   | cons y ys => rw [eqL, Bool.and_eq_true, h x (by simp), ihx ys (fun t ht => h t (by simp [ht]))]; simp
 rw [hl ks es ih]
 simp
theorem eqT_refl (t : Tree) : eqT t t = true := (eqT_iff t t).2 rfl
end
section
open Go.RowKit FracM
set_option maxRecDepth 100000 in
theorem eq_frac (x0 y0 x1 y1 : Int) (w : World) : (Op.equalIn 10000 24 (.agg #[.int .i64 x0, .int .i64 x1]) (.agg #[.int .i64 y0, .int .i64 y1])).run Tryz.prog w = .ok ((x0 == y0) && (x1 == y1)) w := by
 have hS : Tryz.prog.underlying 24 = some (.struct (Tryz.prog.fieldsOf 24)) := by kernel_rfl
 rw [show (10000 : Nat) = 9999 + 1 from rfl, run_equalIn_agg w 9999 24 _ _ hS (by kernel_rfl)]
 simp only [Program.fieldsOf, Tryz.underlying24]
 go_simp
 cases h0 : (x0 == y0) <;> cases h1 : (x1 == y1) <;> simp_all
/-- two nodes in boxes -/
structure E2b (w W : World) (P Q : Nat → Nat → Prop) (d e : Nd) (ks es : List Tree) (s r : Sl) : Prop where
 below : Below w.heap.size w W
 b1 : Blk W w.heap.size exT (ndC d s.1 s.2.1 s.2.2)
 b2 : Blk W (w.heap.size + 1) exT (ndC e r.1 r.2.1 r.2.2)
 t1 : TreeAt W P (.node d ks) s
 t2 : TreeAt W Q (.node e es) r
theorem E2b.next {w W W' : World} {P Q : Nat → Nat → Prop} {d e : Nd} {ks es : List Tree} {s r : Sl} (h : E2b w W P Q d e ks es s r) (hb : Below W.heap.size W W') : E2b w W' P Q d e ks es s r :=
 ⟨bthen h.below hb (Nat.le_refl _), h.b1.below hb, h.b2.below hb, h.t1.belo hb, h.t2.belo hb⟩
end
section
open Go.RowKit FracM
/-- a variable that holds a tree -/
structure TB (W : World) (g : Nat) (t : Tree) (s : Sl) : Prop where
 box : Blk W g 29 (ndC t.d s.1 s.2.1 s.2.2)
 tr : TreeAt W AnyP t s
theorem TB.next {W W' : World} {g : Nat} {t : Tree} {s : Sl} (h : TB W g t s) (hb : Below W.heap.size W W') : TB W' g t s := ⟨h.box.below hb, (h.tr.low.keep (Agree.of_below hb)).mono fun _ _ _ _ => trivial⟩
theorem TB.new {W : World} {t : Tree} {s : Sl} (h : TreeAt W AnyP t s) : TB (W.alloc (.cells (ndC t.d s.1 s.2.1 s.2.2) 29)) W.heap.size t s := ⟨Blk.new _ _ _, (h.low.keep (Agree.of_below (bel1 _ _))).mono fun _ _ _ _ => trivial⟩
structure T3 (w W : World) (g1 : Nat) (t1 : Tree) (s1 : Sl) (g2 : Nat) (t2 : Tree) (s2 : Sl) (g3 : Nat) (t3 : Tree) (s3 : Sl) : Prop where
 below : Below w.heap.size w W
 x1 : TB W g1 t1 s1
 x2 : TB W g2 t2 s2
 x3 : TB W g3 t3 s3
end
section
open Go.RowKit FracM
def bound (n most : Int) : Int := around n (2 * most + 1) - most
theorem bound_any (n most : Int) (w : World) (hn1 : -9223372036854775808 ≤ n) (hn2 : n ≤ 9223372036854775807) (h1 : 0 ≤ most) (h2 : most ≤ 2305843009213693952) :
  Calls Tryz.prog 20 #[.int .i64 n, .int .i64 most] w fun e w' => e = .returned (.int .i64 (bound n most)) ∧ w = w' := by
 obtain ⟨b1, b2⟩ := around_bd n (2 * most + 1) (by omega)
 go_enter Tryz.func20, Tryz.ntmps20
 go_wp2_with (go_at_call 18; refine (around_any _ _ _ hn1 hn2 (by omega) (by omega)).mono ?_; rintro e w' ⟨rfl, rfl⟩)
 go_ret
 exact ⟨rfl, rfl⟩
theorem bound_bd (n most : Int) (h1 : 0 ≤ most) : -most ≤ bound n most ∧ bound n most ≤ most := by
 have := around_bd n (2 * most + 1) (by omega)
 unfold bound; omega
end
end Go.Proofs.YthoibeajhdhdhaaGreatDoor
