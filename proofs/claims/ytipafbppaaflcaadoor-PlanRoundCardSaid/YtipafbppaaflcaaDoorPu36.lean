/- Contracts, packed: Jn. -/
import Derived.Test.YtipafbppaaflcaaDoorPu23
import Derived.Test.YtipafbppaaflcaaDoorPu35
set_option linter.unusedVariables false
set_option linter.unusedSimpArgs false
namespace Go.Proofs.YtipafbppaaflcaaDoor
section
open Go.RowKit FracM
def matB (x y : Mat) : Bool := (x.1.toList == y.1.toList) && (x.2.1 == y.2.1) && (x.2.2.toList == y.2.2.toList)
def matsB : List Mat → List Mat → Bool
 | [], [] => true
 | x :: xs, y :: ys => matB x y && matsB xs ys
 | _, _ => false
def strsB : List ByteArray → List ByteArray → Bool
 | [], [] => true
 | x :: xs, y :: ys => (x.toList == y.toList) && strsB xs ys
 | _, _ => false
theorem matsB_len {xs ys : List Mat} (h : xs.length ≠ ys.length) : matsB xs ys = false := by
 induction xs generalizing ys with
 | nil => cases ys with
  | nil => simp at h
  | cons y ys => rfl
 | cons x xs ih => cases ys with
  | nil => rfl
  | cons y ys => rw [matsB, ih (by simpa using h)]; simp
theorem SeqP.mat {w : World} {P : Nat → Nat → Prop} {A : Option Addr} {n c : Nat} {l : List Mat} (h : SeqP w P 3 (.slice A n c) n (l.flatMap matCells)) (k : Nat) (x : Mat) (hx : l[k]? = some x) :
  ∃ b off, A = some ⟨b, off, none⟩ ∧ w.cell? ⟨b, off + k * 3, none⟩ = some (.string x.1) ∧ w.cell? ⟨b, off + k * 3 + 1, none⟩ = some (.int .i64 x.2.1) ∧ w.cell? ⟨b, off + k * 3 + 2, none⟩ = some (.string x.2.2) := by
 obtain ⟨hl, A', c', hv, h1, h2, h3⟩ := h
 cases hv
 have hlt := (List.getElem?_eq_some_iff.1 hx).1
 have g := fun j hj => flat_get matCells 3 (fun _ => rfl) l k j x hx hj
 have hm : 0 < n := by
  rcases Nat.eq_zero_or_pos n with h0 | h0
  ·subst h0
   have g0 := g 0 (by omega)
   rw [show l.flatMap matCells = [] from List.eq_nil_of_length_eq_zero (by rw [hl])] at g0
   simp [matCells] at g0
  ·exact h0
 obtain ⟨b, off, rfl, hb, hp, hc⟩ := h3 hm
 refine ⟨b, off, rfl, ?_, ?_, ?_⟩
 ·exact hc _ _ ((g 0 (by omega)).trans rfl)
 ·rw [Nat.add_assoc]; exact hc _ _ ((g 1 (by omega)).trans rfl)
 ·rw [Nat.add_assoc]; exact hc _ _ ((g 2 (by omega)).trans rfl)
set_option maxRecDepth 100000 in
theorem eq_mat (x0 y0 x2 y2 : ByteArray) (x1 y1 : Int) (w : World) : (Op.equalIn 10000 71 (.agg #[.string x0, .int .i64 x1, .string x2]) (.agg #[.string y0, .int .i64 y1, .string y2])).run Tryd.prog w = .ok (matB (x0, x1, x2) (y0, y1, y2)) w := by
 have hS : Tryd.prog.underlying 71 = some (.struct (Tryd.prog.fieldsOf 71)) := by kernel_rfl
 rw [show (10000 : Nat) = 9999 + 1 from rfl, run_equalIn_agg w 9999 71 _ _ hS (by kernel_rfl)]
 simp only [Program.fieldsOf, Tryd.underlying71]
 go_simp
 unfold matB
 cases h0 : (x0.toList == y0.toList) <;> cases h1 : (x1 == y1) <;> cases h2 : (x2.toList == y2.toList) <;> simp_all
set_option maxHeartbeats 2000000 in
set_option maxRecDepth 100000 in
theorem pmats_any (A1 A2 : Option Addr) (c1 c2 : Nat) (P Q : Nat → Nat → Prop) (a b : List Mat) (w : World) (ha : SeqP w P 3 (.slice A1 a.length c1) a.length (a.flatMap matCells)) (hb : SeqP w Q 3 (.slice A2 b.length c2) b.length (b.flatMap matCells)) :
  Calls Tryd.prog 55 #[.slice A1 a.length c1, .slice A2 b.length c2] w (RetB (.bool (matsB a b)) w) := by
 have l1 := ha.form
 have l2 : a.length ≤ 9223372036854775807 := by obtain ⟨_, _, e, h⟩ := l1; cases e; exact h
 have l3 : b.length ≤ 9223372036854775807 := by obtain ⟨_, _, e, h⟩ := hb.form; cases e; exact h
 clear l1
 have HA := Box.mk ha
 have HB := Box.mk hb
 clear ha hb
 obtain ⟨q, hq⟩ : ∃ q, matsB a b = q := ⟨_, rfl⟩
 have HQ := Box.mk hq
 rw [hq]
 by_cases hn : a.length = b.length
 ·have HN := Box.mk hn
  obtain ⟨m, hm⟩ : ∃ m, a.length = m := ⟨_, rfl⟩
  have hm2 : b.length = m := by omega
  have HM := Box.mk (And.intro hm hm2)
  rw [hm, hm2]
  rw [hm] at HA l2
  rw [hm2] at HB
  clear hn hm hm2 hq l3
  go_enter Tryd.func55, Tryd.ntmps55
  go_wp2_with fail
  go_loopw [13] (fun v wr => ∃ k n : Nat, k ≤ m ∧ v = .int .i64 (k : Nat) ∧ wr = w.drewN n ∧ Box (matsB (a.drop k) (b.drop k) = q)) (fun v _ => m - (intOf v).toNat)
  case atStart => exact ⟨0, 0, by omega, rfl, rfl, HQ⟩
  case round =>
   obtain ⟨k, n, hk, rfl, rfl, HD⟩ := hrel
   by_cases hlt : k < m
   ·obtain ⟨x, hx⟩ : ∃ x, a[k]? = some x := ⟨a[k]'(by have := HM.out; omega), List.getElem?_eq_getElem _⟩
    obtain ⟨y, hy⟩ : ∃ y, b[k]? = some y := ⟨b[k]'(by have := HM.out; omega), List.getElem?_eq_getElem _⟩
    obtain ⟨g1, o1, rfl, x0, x1, x2⟩ := SeqP.mat HA.out k x hx
    obtain ⟨g2, o2, rfl, y0, y1, y2⟩ := SeqP.mat HB.out k y hy
    have HDD : Box (a.drop k = x :: a.drop (k + 1) ∧ b.drop k = y :: b.drop (k + 1)) := ⟨by rw [List.drop_eq_getElem_cons (by have := HM.out; omega), (List.getElem?_eq_some_iff.1 hx).2], by rw [List.drop_eq_getElem_cons (by have := HM.out; omega), (List.getElem?_eq_some_iff.1 hy).2]⟩
    obtain ⟨z, hz⟩ : ∃ z, matB x y = z := ⟨_, rfl⟩
    have HZ := Box.mk hz
    obtain ⟨xa, xb, xc⟩ := x
    obtain ⟨ya, yb, yc⟩ := y
    simp only at x0 x1 x2 y0 y1 y2
    have hlt2 : (k : Int) < (m : Int) := by omega
    have hlt0 : (0 : Int) ≤ (k : Int) := by omega
    have hqq : ∀ W : World, (Op.equalIn 10000 71 (.agg #[.string xa, .int .i64 xb, .string xc]) (.agg #[.string ya, .int .i64 yb, .string yc])).run Tryd.prog W = .ok z W := fun W => by rw [eq_mat, HZ.out]
    clear hx hy hz
    go_upto_region 6 with (fail)
    go_quiet (fail)
    cases z
    ·go_wp2_with fail
     go_ret
     exact ⟨ret_bool (by rw [← HD.out, HDD.out.1, HDD.out.2, matsB, HZ.out]; rfl), bdrew (below_drewN w n) _⟩
    ·go_wp2_with fail
     go_roundw
     case rel => exact ⟨k + 1, n + nq, by omega, by go_num, rfl, ⟨by rw [← HD.out, HDD.out.1, HDD.out.2, matsB, HZ.out]; simp⟩⟩
     case measure => simp [intOf]; omega
   ·have hlt2 : ¬ (k : Int) < (m : Int) := by omega
    go_wp2_with fail
    go_ret
    exact ⟨ret_bool (by rw [← HD.out, List.drop_eq_nil_of_le (by have := HM.out; omega), List.drop_eq_nil_of_le (by have := HM.out; omega)]; rfl), below_drewN w n⟩
 ·have hn2 : ((a.length : Int) != (b.length : Int)) = true := by simp; omega
  have hq2 := matsB_len hn
  have HE : Box (q = false) := ⟨by rw [← hq, hq2]⟩
  clear hn hq hq2
  go_enter Tryd.func55, Tryd.ntmps55
  go_wp2_with fail
  go_ret
  exact ⟨ret_bool HE.out.symm, Below.refl _ _⟩
theorem ba_beq (a b : ByteArray) : (a.toList == b.toList) = decide (a = b) := by
 rw [Bool.eq_iff_iff, beq_iff_eq, decide_eq_true_iff, ByteArray.toList_eq, ByteArray.toList_eq]
 exact ⟨fun h => ByteArray.ext (Array.toList_inj.mp h), fun h => by rw [h]⟩
theorem strsB_eq (xs ys : List ByteArray) : strsB xs ys = decide (xs = ys) := by
 induction xs generalizing ys with
 | nil => cases ys <;> simp [strsB]
 | cons x xs ih => cases ys with
  | nil => simp [strsB]
  | cons y ys => rw [strsB, ih, ba_beq]; simp
theorem matsB_eq (xs ys : List Mat) : matsB xs ys = decide (xs = ys) := by
 induction xs generalizing ys with
 | nil => cases ys <;> simp [matsB]
 | cons x xs ih => cases ys with
  | nil => simp [matsB]
  | cons y ys =>
   obtain ⟨x0, x1, x2⟩ := x
   obtain ⟨y0, y1, y2⟩ := y
   rw [matsB, ih, matB, ba_beq, ba_beq]
   by_cases h0 : x0 = y0 <;> by_cases h1 : x1 = y1 <;> by_cases h2 : x2 = y2 <;> simp [h0, h1, h2]
theorem pstrs_any (A1 A2 : Option Addr) (c1 c2 : Nat) (P Q : Nat → Nat → Prop) (a b : List ByteArray) (w : World) (ha : SeqP w P 1 (.slice A1 a.length c1) a.length (a.map Value.string)) (hb : SeqP w Q 1 (.slice A2 b.length c2) b.length (b.map Value.string)) :
  Calls Tryd.prog 56 #[.slice A1 a.length c1, .slice A2 b.length c2] w (RetB (.bool (strsB a b)) w) := by
 have l2 : a.length ≤ 9223372036854775807 := by obtain ⟨_, _, e, h⟩ := ha.form; cases e; exact h
 have l3 : b.length ≤ 9223372036854775807 := by obtain ⟨_, _, e, h⟩ := hb.form; cases e; exact h
 rw [strsB_eq]
 by_cases h0 : a.length = b.length
 ·cases a with
  | nil =>
   cases b with
   | nil => exact (Tryd.slices_Equal_string_empty A1 A2 c1 0 c2 w (by omega)).mono fun e w' ⟨he, hw⟩ => ⟨by rw [he]; rfl, by subst hw; exact Below.refl _ _⟩
   | cons y ys => simp at h0
  | cons x xs =>
   obtain ⟨_, A', c', hv, h1, h2, h3⟩ := ha
   cases hv
   obtain ⟨g1, o1, rfl, hg1, _, hc1⟩ := h3 (by simp)
   obtain ⟨_, A', c', hv, h1, h2, h3⟩ := hb
   cases hv
   obtain ⟨g2, o2, rfl, hg2, _, hc2⟩ := h3 (by simp at h0; omega)
   refine (Tryd.slices_Equal_string g1 o1 (x :: xs).length c1 g2 o2 b.length c2 (x :: xs) b w (Nat.le_refl _) (Nat.le_refl _) l2 l3 (fun j hj => ?_) (fun j hj => ?_)).mono fun e w' ⟨he, k, hw⟩ => ⟨?_, by subst hw; exact below_drewN _ _⟩
   ·exact hc1 j _ (by rw [List.getElem?_map, List.getElem?_eq_getElem hj, List.getD_eq_getElem?_getD, List.getElem?_eq_getElem hj]; rfl)
   ·exact hc2 j _ (by rw [List.getElem?_map, List.getElem?_eq_getElem hj, List.getD_eq_getElem?_getD, List.getElem?_eq_getElem hj]; rfl)
   ·rw [he, List.take_length, List.take_length]
 ·exact (Tryd.slices_Equal_string_lens A1 A2 a.length c1 b.length c2 w h0).mono fun e w' ⟨he, hw⟩ => ⟨by rw [he, decide_eq_false (fun h => h0 (by rw [h]))], by subst hw; exact Below.refl _ _⟩
/-- equality of nodes and of trees, as the program has it -/
def ndB (d e : Nd) : Bool := (d.kind == e.kind) && ((d.fn == e.fn) && ((d.win == e.win) && ((d.off == e.off) && ((d.k == e.k) && (((d.num == e.num) && (d.den == e.den)) && ((d.name.toList == e.name.toList) && (matsB d.ms e.ms && strsB d.bys e.bys)))))))
mutual
def eqT : Tree → Tree → Bool
 | .node d ks, .node e es => ndB d e && eqL ks es
def eqL : List Tree → List Tree → Bool
 | [], [] => true
 | t :: ts, u :: us => eqT t u && eqL ts us
 | [], _ :: _ => false
 | _ :: _, [] => false
end
theorem eqL_len {xs ys : List Tree} (h : xs.length ≠ ys.length) : eqL xs ys = false := by
 induction xs generalizing ys with
 | nil => cases ys with
  | nil => simp at h
  | cons y ys => rw [eqL]
 | cons x xs ih => cases ys with
  | nil => rw [eqL]
  | cons y ys => rw [eqL, ih (by simpa using h)]; simp
theorem ndB_iff (d e : Nd) : ndB d e = true ↔ d = e := by
 obtain ⟨a0, a1, a2, a3, a4, a5, a6, a7, a8, a9⟩ := d
 obtain ⟨b0, b1, b2, b3, b4, b5, b6, b7, b8, b9⟩ := e
 unfold ndB
 simp only [ba_beq, matsB_eq, strsB_eq, Bool.and_eq_true, beq_iff_eq, decide_eq_true_eq, Nd.mk.injEq]
 constructor
 ·rintro ⟨h0, h1, h2, h3, h4, ⟨h5, h6⟩, h7, h8, h9⟩; exact ⟨h0, h1, h2, h3, h4, h5, h6, h7, h8, h9⟩
 ·rintro ⟨h0, h1, h2, h3, h4, h5, h6, h7, h8, h9⟩; exact ⟨h0, h1, h2, h3, h4, ⟨h5, h6⟩, h7, h8, h9⟩
theorem eqT_iff : ∀ t u, eqT t u = true ↔ t = u := by
 refine Tree.ind fun d ks ih u => ?_
 obtain ⟨e, es⟩ := u
 rw [eqT, Bool.and_eq_true, ndB_iff]
 have hl : ∀ (xs ys : List Tree), (∀ t ∈ xs, ∀ u, eqT t u = true ↔ t = u) → (eqL xs ys = true ↔ xs = ys) := by
  intro xs
  induction xs with
  | nil => intro ys _; cases ys <;> simp [eqL]
  | cons x xs ihx => intro ys h; cases ys with
   | nil => simp [eqL]
   | cons y ys => rw [eqL, Bool.and_eq_true, h x (by simp), ihx ys (fun t ht => h t (by simp [ht]))]; simp
 rw [hl ks es ih]
 simp
theorem eqT_refl (t : Tree) : eqT t t = true := (eqT_iff t t).2 rfl
def EqOk (t : Tree) : Prop := ∀ (u : Tree) (P Q : Nat → Nat → Prop) (w : World) (s r : Sl), TreeAt w P t s → TreeAt w Q u r →
 Calls Tryd.prog 29 #[.agg (ndC t.d s.1 s.2.1 s.2.2), .agg (ndC u.d r.1 r.2.1 r.2.2)] w (RetB (.bool (eqT t u)) w)
set_option maxHeartbeats 4000000 in
set_option maxRecDepth 100000 in
theorem peqf_any (d e : Nd) (ks es : List Tree) (H : ∀ t ∈ ks, EqOk t) (P Q : Nat → Nat → Prop) (w : World) (mv bv kv mv' bv' kv' : Value) (hT : TreeAt w P (.node d ks) (mv, bv, kv)) (hU : TreeAt w Q (.node e es) (mv', bv', kv')) :
  Calls Tryd.prog 57 #[kv, kv', .func (.func 29) #[] #[]] w (RetB (.bool (eqL ks es)) w) := by
 obtain ⟨A3, n3, rfl, l3⟩ := hT.nod.kform
 obtain ⟨B3, m3, rfl, l4⟩ := hU.nod.kform
 have HT := Box.mk hT
 have HU := Box.mk hU
 have HH := Box.mk H
 clear hT hU H
 obtain ⟨q, hq⟩ : ∃ q, eqL ks es = q := ⟨_, rfl⟩
 have HQ := Box.mk hq
 rw [hq]
 by_cases hn : ks.length = es.length
 ·obtain ⟨m, hm⟩ : ∃ m, ks.length = m := ⟨_, rfl⟩
  have hm2 : es.length = m := by omega
  have HM := Box.mk (And.intro hm hm2)
  rw [hm, hm2]
  rw [hm] at HT l3
  rw [hm2] at HU
  clear hn hm hm2 hq l4
  go_enter Tryd.func57, Tryd.ntmps57
  go_wp2_with fail
  go_loopw [17] (fun v wr => ∃ k : Nat, k ≤ m ∧ v = .int .i64 (k : Nat) ∧ Below w.heap.size w wr ∧ Box (eqL (ks.drop k) (es.drop k) = q)) (fun v _ => m - (intOf v).toNat)
  case atStart => exact ⟨0, by omega, rfl, Below.refl _ _, HQ⟩
  case round =>
   obtain ⟨k, hk, rfl, hb, HD⟩ := hrel
   have HT' := Box.mk (HT.out.low.keep (Agree.of_below hb))
   have HU' := Box.mk (HU.out.low.keep (Agree.of_below hb))
   have HB := Box.mk hb
   clear hb
   by_cases hlt : k < m
   ·obtain ⟨x, hx⟩ : ∃ x, ks[k]? = some x := ⟨ks[k]'(by have := HM.out; omega), List.getElem?_eq_getElem _⟩
    obtain ⟨y, hy⟩ : ∃ y, es[k]? = some y := ⟨es[k]'(by have := HM.out; omega), List.getElem?_eq_getElem _⟩
    obtain ⟨xd, xs⟩ := x
    obtain ⟨yd, ys⟩ := y
    obtain ⟨g1, o1, X1, X2, X3, rfl, -, -, ⟨x0, x1, x2, x3, x4, x5, x6, x7, x8, x9, x10⟩, hTx⟩ := HT'.out.nod.kid k xd xs hx
    obtain ⟨C1, c1, rfl, -⟩ := hTx.nod.ms.form
    obtain ⟨C2, c2, rfl, -⟩ := hTx.nod.bys.form
    obtain ⟨C3, c3, rfl, -⟩ := hTx.nod.kform
    obtain ⟨B', b', hB3⟩ : ∃ g2 o2, B3 = some ⟨g2, o2, none⟩ := by
     obtain ⟨g2, o2, Y1, Y2, Y3, h, -⟩ := HU'.out.nod.kid k yd ys hy
     exact ⟨g2, o2, h⟩
    subst hB3
    have HDD : Box (ks.drop k = .node xd xs :: ks.drop (k + 1) ∧ es.drop k = .node yd ys :: es.drop (k + 1)) := ⟨by rw [List.drop_eq_getElem_cons (by have := HM.out; omega), (List.getElem?_eq_some_iff.1 hx).2], by rw [List.drop_eq_getElem_cons (by have := HM.out; omega), (List.getElem?_eq_some_iff.1 hy).2]⟩
    have HX := Box.mk (HH.out _ (List.mem_of_getElem? hx))
    have HY := Box.mk hy
    have hlt2 : (k : Int) < (m : Int) := by omega
    have HA : Box (Blk (wr.alloc (.cells (ndC xd (.slice C1 xd.ms.length c1) (.slice C2 xd.bys.length c2) (.slice C3 xs.length c3)) exT)) wr.heap.size exT (ndC xd (.slice C1 xd.ms.length c1) (.slice C2 xd.bys.length c2) (.slice C3 xs.length c3)) ∧ TreeAt (wr.alloc (.cells (ndC xd (.slice C1 xd.ms.length c1) (.slice C2 xd.bys.length c2) (.slice C3 xs.length c3)) exT)) (fun b _ => b < w.heap.size) (.node e es) (mv', bv', .slice (some ⟨B', b', none⟩) m m3) ∧ TreeAt (wr.alloc (.cells (ndC xd (.slice C1 xd.ms.length c1) (.slice C2 xd.bys.length c2) (.slice C3 xs.length c3)) exT)) (fun b _ => b < w.heap.size) (.node xd xs) (.slice C1 xd.ms.length c1, .slice C2 xd.bys.length c2, .slice C3 xs.length c3) ∧ Below w.heap.size w (wr.alloc (.cells (ndC xd (.slice C1 xd.ms.length c1) (.slice C2 xd.bys.length c2) (.slice C3 xs.length c3)) exT))) := ⟨Blk.new _ _ _, HU'.out.belo (bel1 _ _), hTx.belo (bel1 _ _), bthen HB.out (bel1 _ _) (Nat.le_refl _)⟩
    clear hx hy hTx HU' HT' HB
    go_upto_region 6 with (fail)
    clear x0 x1 x2 x3 x4 x5 x6 x7 x8 x9 x10
    generalize wr.heap.size = gx at *
    generalize wr.alloc (.cells (ndC xd (.slice C1 xd.ms.length c1) (.slice C2 xd.bys.length c2) (.slice C3 xs.length c3)) exT) = W1 at *
    obtain ⟨g2, o2, Y1, Y2, Y3, hE, -, -, ⟨y0, y1, y2, y3, y4, y5, y6, y7, y8, y9, y10⟩, hTy⟩ := HA.out.2.1.nod.kid k yd ys HY.out
    cases hE
    obtain ⟨D1, d1, rfl, -⟩ := hTy.nod.ms.form
    obtain ⟨D2, d2, rfl, -⟩ := hTy.nod.bys.form
    obtain ⟨D3, d3, rfl, -⟩ := hTy.nod.kform
    have HA2 : Box (Blk (W1.alloc (.cells (ndC yd (.slice D1 yd.ms.length d1) (.slice D2 yd.bys.length d2) (.slice D3 ys.length d3)) exT)) gx exT (ndC xd (.slice C1 xd.ms.length c1) (.slice C2 xd.bys.length c2) (.slice C3 xs.length c3)) ∧ Blk (W1.alloc (.cells (ndC yd (.slice D1 yd.ms.length d1) (.slice D2 yd.bys.length d2) (.slice D3 ys.length d3)) exT)) W1.heap.size exT (ndC yd (.slice D1 yd.ms.length d1) (.slice D2 yd.bys.length d2) (.slice D3 ys.length d3)) ∧ TreeAt (W1.alloc (.cells (ndC yd (.slice D1 yd.ms.length d1) (.slice D2 yd.bys.length d2) (.slice D3 ys.length d3)) exT)) (fun b _ => b < w.heap.size) (.node yd ys) (.slice D1 yd.ms.length d1, .slice D2 yd.bys.length d2, .slice D3 ys.length d3) ∧ TreeAt (W1.alloc (.cells (ndC yd (.slice D1 yd.ms.length d1) (.slice D2 yd.bys.length d2) (.slice D3 ys.length d3)) exT)) (fun b _ => b < w.heap.size) (.node xd xs) (.slice C1 xd.ms.length c1, .slice C2 xd.bys.length c2, .slice C3 xs.length c3) ∧ Below w.heap.size w (W1.alloc (.cells (ndC yd (.slice D1 yd.ms.length d1) (.slice D2 yd.bys.length d2) (.slice D3 ys.length d3)) exT))) := ⟨HA.out.1.alloc _, Blk.new _ _ _, hTy.belo (bel1 _ _), HA.out.2.2.1.belo (bel1 _ _), bthen HA.out.2.2.2 (bel1 _ _) (Nat.le_refl _)⟩
    clear hTy HA
    go_upto_region 7 with (fail)
    clear y0 y1 y2 y3 y4 y5 y6 y7 y8 y9 y10
    generalize W1.heap.size = gy at *
    generalize W1.alloc (.cells (ndC yd (.slice D1 yd.ms.length d1) (.slice D2 yd.bys.length d2) (.slice D3 ys.length d3)) exT) = W2 at *
    obtain ⟨x0, x1, x2, x3, x4, x5, x6, x7, x8, x9, x10⟩ := blk11z HA2.out.1
    obtain ⟨y0, y1, y2, y3, y4, y5, y6, y7, y8, y9, y10⟩ := blk11z HA2.out.2.1
    go_wp2_with fail
    refine (HX.out (.node yd ys) _ _ _ (.slice C1 xd.ms.length c1, .slice C2 xd.bys.length c2, .slice C3 xs.length c3) (.slice D1 yd.ms.length d1, .slice D2 yd.bys.length d2, .slice D3 ys.length d3) HA2.out.2.2.2.1 HA2.out.2.2.1).mono ?_
    rintro e9 w9 ⟨rfl, hb9⟩
    have HB := Box.mk (bthen HA2.out.2.2.2.2 hb9 (Nat.le_refl _))
    clear hb9 x0 x1 x2 x3 x4 x5 x6 x7 x8 x9 x10 y0 y1 y2 y3 y4 y5 y6 y7 y8 y9 y10 HA2
    obtain ⟨z, hz⟩ : ∃ z, eqT (.node xd xs) (.node yd ys) = z := ⟨_, rfl⟩
    have HZ := Box.mk hz
    rw [hz]
    clear hz
    cases z
    ·go_wp2_with fail
     go_ret
     exact ⟨ret_bool (by rw [← HD.out, HDD.out.1, HDD.out.2, eqL, HZ.out]; rfl), HB.out⟩
    ·go_wp2_with fail
     go_roundw
     case rel => exact ⟨k + 1, by omega, by go_num, HB.out, ⟨by rw [← HD.out, HDD.out.1, HDD.out.2, eqL, HZ.out]; simp⟩⟩
     case measure => simp [intOf]; omega
   ·have hlt2 : ¬ (k : Int) < (m : Int) := by omega
    go_wp2_with fail
    go_ret
    exact ⟨ret_bool (by rw [← HD.out, List.drop_eq_nil_of_le (by have := HM.out; omega), List.drop_eq_nil_of_le (by have := HM.out; omega), eqL]), HB.out⟩
 ·have hn2 : ((ks.length : Int) != (es.length : Int)) = true := by simp; omega
  have hq2 := eqL_len hn
  have HE : Box (q = false) := ⟨by rw [← hq, hq2]⟩
  clear hn hq hq2
  go_enter Tryd.func57, Tryd.ntmps57
  go_wp2_with fail
  go_ret
  exact ⟨ret_bool HE.out.symm, Below.refl _ _⟩
end
end Go.Proofs.YtipafbppaaflcaaDoor
