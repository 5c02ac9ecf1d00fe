/- Contracts, packed: Ok. -/
import Derived.Test.YthoibeajhdhdhaaGreatDoorPy38
import Derived.Test.YthoibeajhdhdhaaGreatDoorPy40
set_option linter.unusedVariables false
set_option linter.unusedSimpArgs false
namespace Go.Proofs.YthoibeajhdhdhaaGreatDoor
section
open Go.RowKit FracM
/-- a function that makes a tree, over states with less than n tokens left -/
def TreeOk (f : FuncId) (g : Nat) (A : Option Addr) (c : Nat) (N : Int) (toks : List Tok) (M : List Tok → Res Tree) (n : Nat) : Prop :=
 ∀ (w : World) (s : StP), (∀ ts, s = .ok ts → ts.length < n) → RX w g A c N toks s → Calls Tryz.prog f #[.pointer (some ⟨g, 0, none⟩)] w (RetU g A c N toks w (bindS s M) (VTr w.heap.size) GTr)
theorem RetU.tree {g : Nat} {A : Option Addr} {c : Nat} {N : Int} {toks : List Tok} {w w' : World} {r : Res Tree} {B : Nat} {e : Ending} (h : RetU g A c N toks w r (VTr B) GTr e w') : Only g w w' ∧ RX w' g A c N toks (sOf r) ∧
  ∃ (d : Nd) (A1 : Option Addr) (n1 c1 : Nat) (A2 : Option Addr) (n2 c2 : Nat) (A3 : Option Addr) (n3 c3 : Nat), e = .returned (.agg (ndC d (.slice A1 n1 c1) (.slice A2 n2 c2) (.slice A3 n3 c3))) ∧ ∀ t us, r = .ok (t, us) → ∃ ks, t = .node d ks ∧ TreeAt w' (fun b _ => B ≤ b) (.node d ks) ((.slice A1 n1 c1), (.slice A2 n2 c2), (.slice A3 n3 c3)) := by
 obtain ⟨ho, hp, v, he, hv⟩ := h
 refine ⟨ho, hp, ?_⟩
 subst he
 match r, hv with
 | .error f, h =>
  obtain ⟨d, A1, n1, c1, A2, n2, c2, A3, n3, c3, hv⟩ := h
  exact ⟨d, A1, n1, c1, A2, n2, c2, A3, n3, c3, by rw [hv], fun t us h => by cases h⟩
 | .ok (t, us), h =>
  obtain ⟨mv, bv, kv, hv, ht⟩ := h
  obtain ⟨d, ks⟩ := t
  obtain ⟨A1, c1, rfl, -⟩ := ht.nod.ms.form
  obtain ⟨A2, c2, rfl, -⟩ := ht.nod.bys.form
  obtain ⟨A3, c3, rfl, -⟩ := ht.nod.kform
  exact ⟨d, A1, _, c1, A2, _, c2, A3, _, c3, by rw [hv]; rfl, fun t' us' h => by cases h; exact ⟨ks, rfl, ht⟩⟩
theorem bin_of {w w2 : World} {g : Nat} {A : Option Addr} {c : Nat} {N : Int} {toks : List Tok} {s : StP} {lb : Nat} {e1 e2 : Nd} {m1 v1 k1 m2 v2 k2 : Value} {fn : Nat} (hf : fn ≤ 10) (h : RF w w2 g A c N toks s lb (ndC e1 m1 v1 k1)) :
  RF w ((put11 w2 lb (.int .i64 3) (.int .i64 (fn : Int)) (.int .i64 0) (.int .i64 0) (.int .i64 0) (.int .i64 0) (.int .i64 0) (.string ⟨#[]⟩) nilV nilV (.slice (some ⟨w2.heap.size, 0, none⟩) 2 2)).alloc (.cells (kidC e1 m1 v1 k1 e2 m2 v2 k2) 29)) g A c N toks s lb (ndC ⟨3, (fn : Int), 0, 0, 0, 0, 0, ⟨#[]⟩, [], []⟩ nilV nilV (.slice (some ⟨w2.heap.size, 0, none⟩) 2 2)) ∧
  ∀ (es1 es2 : List Tree) (b0 : Nat), lb < b0 → TreeAt w2 (fun b _ => w.heap.size < b ∧ b ≠ lb) (.node e1 es1) (m1, v1, k1) → TreeAt w2 (fun b _ => b0 ≤ b) (.node e2 es2) (m2, v2, k2) →
   TreeAt ((put11 w2 lb (.int .i64 3) (.int .i64 (fn : Int)) (.int .i64 0) (.int .i64 0) (.int .i64 0) (.int .i64 0) (.int .i64 0) (.string ⟨#[]⟩) nilV nilV (.slice (some ⟨w2.heap.size, 0, none⟩) 2 2)).alloc (.cells (kidC e1 m1 v1 k1 e2 m2 v2 k2) 29)) (fun b _ => w.heap.size < b ∧ b ≠ lb) (binT fn (.node e1 es1) (.node e2 es2)) (nilV, nilV, .slice (some ⟨w2.heap.size, 0, none⟩) 2 2) := by
 have hg := h.low
 have hl := h.new
 have hlt := h.out.lt
 have hsz : (put11 w2 lb (.int .i64 3) (.int .i64 (fn : Int)) (.int .i64 0) (.int .i64 0) (.int .i64 0) (.int .i64 0) (.int .i64 0) (.string ⟨#[]⟩) nilV nilV (.slice (some ⟨w2.heap.size, 0, none⟩) 2 2)).heap.size = w2.heap.size := by simp [World.setCell]
 have hbl : Blk (put11 w2 lb (.int .i64 3) (.int .i64 (fn : Int)) (.int .i64 0) (.int .i64 0) (.int .i64 0) (.int .i64 0) (.int .i64 0) (.string ⟨#[]⟩) nilV nilV (.slice (some ⟨w2.heap.size, 0, none⟩) 2 2)) lb 29 (ndC ⟨3, (fn : Int), 0, 0, 0, 0, 0, ⟨#[]⟩, [], []⟩ nilV nilV (.slice (some ⟨w2.heap.size, 0, none⟩) 2 2)) := put11_blk h.out
 have ho : Only lb w2 (put11 w2 lb (.int .i64 3) (.int .i64 (fn : Int)) (.int .i64 0) (.int .i64 0) (.int .i64 0) (.int .i64 0) (.int .i64 0) (.string ⟨#[]⟩) nilV nilV (.slice (some ⟨w2.heap.size, 0, none⟩) 2 2)) := put11_only ..
 generalize put11 w2 lb (.int .i64 3) (.int .i64 (fn : Int)) (.int .i64 0) (.int .i64 0) (.int .i64 0) (.int .i64 0) (.int .i64 0) (.string ⟨#[]⟩) nilV nilV (.slice (some ⟨w2.heap.size, 0, none⟩) 2 2) = W4 at hsz hbl ho ⊢
 have hkb : Blk (W4.alloc (.cells (kidC e1 m1 v1 k1 e2 m2 v2 k2) 29)) w2.heap.size 29 (kidC e1 m1 v1 k1 e2 m2 v2 k2) := hsz ▸ Blk.new W4 _ _
 have hb := bel1 W4 (.cells (kidC e1 m1 v1 k1 e2 m2 v2 k2) 29)
 have ag : Agree (fun b _ => w.heap.size < b ∧ b ≠ lb) w2 W4 := Agree.of_only ho fun b e hb => hb.2
 have hzw := h.only.size
 refine ⟨⟨(only_new2 h.only ho (by omega)).trans (Only.of_below hb), (h.st.onlyk ho (by omega)).below hb, (ho.blk h.res (by omega)).alloc _, hbl.alloc _, hl, hg⟩, fun es1 es2 b0 hb0 t1 t2 => ?_⟩
 refine Nod.tree (d := (binT fn (.node e1 es1) (.node e2 es2)).d) (ks := [.node e1 es1, .node e2 es2]) ⟨binOk fn hf (.node e1 es1) (.node e2 es2), SeqP.nil _ _ _, SeqP.nil _ _ _, [(m1, v1, k1), (m2, v2, k2)], rfl, ?_, ?_⟩
 ·have := SeqP.of_blk (P := fun b _ => w.heap.size < b ∧ b ≠ lb) (n := 2) (size := 11) hkb rfl (by omega) ⟨by omega, by omega⟩
  simpa [ndL, Tree.d] using this
 ·intro i t' c h1 h2
  match i, h1, h2 with
  | 0, h1, h2 =>
   simp at h1 h2
   subst h1 h2
   exact (t1.keep ag).belo hb
  | 1, h1, h2 =>
   simp at h1 h2
   subst h1 h2
   exact ((t2.mono' (Q := fun b _ => w.heap.size < b ∧ b ≠ lb) fun b e _ hb => ⟨by omega, by omega⟩).keep ag).belo hb
  | j + 2, h1, h2 => simp at h1
theorem isT_no {ts : List Tok} {x y : List UInt8} (h : isT ts 3 x = true) (hn : x ≠ y) : isT ts 3 y = false := by
 cases hq : isT ts 3 y with
 | false => rfl
 | true => exact absurd ((isT_text h).2.symm.trans (isT_text hq).2) hn
/-- the loop of an operation -/
def LpI (w : World) (g : Nat) (A : Option Addr) (c : Nat) (N : Int) (toks : List Tok) (lb n : Nat) (Mop : List Tok → Res Tree) (first : Nat) (Mm : Res Tree) (wr : World) : Prop :=
 ∃ (s : StP) (d : Nd) (A1 : Option Addr) (n1 c1 : Nat) (A2 : Option Addr) (n2 c2 : Nat) (A3 : Option Addr) (n3 c3 : Nat), RF w wr g A c N toks s lb (ndC d (.slice A1 n1 c1) (.slice A2 n2 c2) (.slice A3 n3 c3)) ∧
  (∀ f, s = .error f → Mm = .error f) ∧ ∀ ts, s = .ok ts → ∃ ks m, TreeAt wr (fun b _ => w.heap.size < b ∧ b ≠ lb) (.node d ks) ((.slice A1 n1 c1), (.slice A2 n2 c2), (.slice A3 n3 c3)) ∧ ts.length < m ∧ ts.length < n ∧ Mm = opLoop Mop first m (.node d ks) ts
set_option maxHeartbeats 2000000 in
set_option maxRecDepth 100000 in
theorem rterm_of {g : Nat} {A : Option Addr} {c : Nat} {N : Int} {toks : List Tok} {n : Nat} {Mop : List Tok → Res Tree} (hM : ∀ us, Sho (Mop us) us) (hO : TreeOk 129 g A c N toks Mop n) : TreeOk 104 g A c N toks (operM Mop 2) n := by
 intro w s hlen h
 have HOP := Box.mk hO
 have HMO := Box.mk hM
 have HLE := Box.mk hlen
 have hg := h.lt
 have HP0 : Box (RX (w.alloc (.cells zeroC 29)) g A c N toks s) := ⟨h.below (bel1 _ _)⟩
 obtain ⟨Mm, HMM⟩ : ∃ Mm, Box (bindS s (operM Mop 2) = Mm) := ⟨_, ⟨rfl⟩⟩
 rw [HMM.out]
 clear h hO hM hlen
 go_enter Tryz.func104, Tryz.ntmps104
 go_wp2_with fail
 refine (HOP.out _ s HLE.out HP0.out).mono ?_
 intro e w1 hx
 obtain ⟨ho, hp, d, A1, n1, c1, A2, n2, c2, A3, n3, c3, rfl, hvt⟩ := hx.tree
 have hz : w.heap.size + 1 ≤ w1.heap.size := by have := ho.size; simpa using this
 obtain ⟨lb, hlb⟩ : ∃ lb, w1.heap.size = lb := ⟨_, rfl⟩
 have HI : Box (LpI w g A c N toks lb n Mop 2 Mm (w1.alloc (.cells (ndC d (.slice A1 n1 c1) (.slice A2 n2 c2) (.slice A3 n3 c3)) 29))) := ⟨by
  refine ⟨sOf (bindS s Mop), d, A1, n1, c1, A2, n2, c2, A3, n3, c3, ⟨((Only.of_below (bel1 w _)).trans ho).trans (Only.of_below (bel1 w1 _)), hp.below (bel1 _ _), (ho.blk (Blk.new w zeroC 29) (by omega)).alloc _, hlb ▸ Blk.new w1 (ndC d (.slice A1 n1 c1) (.slice A2 n2 c2) (.slice A3 n3 c3)) 29, by omega, hg⟩, fun f hf => ?_, fun ts hf => ?_⟩
  ·rw [← HMM.out]
   match s, hf with
   | .error e, hf => have hf' : (Except.error e : StP) = .error f := hf; cases hf'; rfl
   | .ok ts0, hf =>
    have hf' : sOf (Mop ts0) = .error f := hf
    show andR (Mop ts0) _ = .error f
    cases hq : Mop ts0 with
    | error e => rw [hq] at hf'; cases hf'; rfl
    | ok p => rw [hq] at hf'; cases hf'
  ·match s, hf, hvt, HLE.out, HMM.out with
   | .error e, hf, _, _, _ => cases hf
   | .ok ts0, hf, hvt, hle, hmm =>
    have hf' : sOf (Mop ts0) = .ok ts := hf
    cases hq : Mop ts0 with
    | error e => rw [hq] at hf'; cases hf'
    | ok p =>
     obtain ⟨t, us⟩ := p
     rw [hq] at hf'
     have hu : us = ts := by cases hf'; rfl
     subst hu
     obtain ⟨ks, rfl, ht⟩ := hvt t us hq
     refine ⟨ks, us.length + 1, (ht.mono (Q := fun b _ => w.heap.size < b ∧ b ≠ lb) fun b e hb hP => ?_).belo (bel1 _ _), by omega, by have := HMO.out ts0 _ _ hq; have := hle ts0 rfl; omega, ?_⟩
     ·have hP' : (w.alloc (.cells zeroC 29)).heap.size ≤ b := hP
      simp at hP'
      exact ⟨by omega, by omega⟩
     ·rw [← hmm]; show andR (Mop ts0) _ = _; rw [hq]; rfl⟩
 clear ho hp hx hvt HP0
 go_wp2_with fail
 go_loopw [] (fun wr => LpI w g A c N toks lb n Mop 2 Mm wr) (fun wr => leftX g toks.length wr)
 case atStart => exact HI.out
 case round =>
  clear HI
  obtain ⟨s, d, A1, n1, c1, A2, n2, c2, A3, n3, c3, hF, hE, hG⟩ := hrel
  have HF := Box.mk hF
  have HMS := Box.mk hF.st.left
  have c4 := hF.st.err
  rcases s with f | ts
  ·have HE := Box.mk (hE f rfl)
   have he2 : (f.2 == 0) = false := by have := hF.st.bad rfl; simp [this]
   have c4' : wr.cell? ⟨g, 4, none⟩ = some (.int .i64 f.2) := c4
   clear hF hE hG c4
   obtain ⟨k0, k1, k2, k3, k4, k5, k6, k7, k8, k9, k10⟩ := blkE HF.out.out
   obtain ⟨z0, z1, z2, z3, z4, z5, z6, z7, z8, z9, z10⟩ := blkE HF.out.res
   have zf := HF.out.res.frozen
   go_wp2_with fail
   have HA : Box (Only g w (put11 wr w.heap.size (.int .i64 d.kind) (.int .i64 d.fn) (.int .i64 d.win) (.int .i64 d.off) (.int .i64 d.k) (.int .i64 d.num) (.int .i64 d.den) (.string d.name) (.slice A1 n1 c1) (.slice A2 n2 c2) (.slice A3 n3 c3)) ∧ RX (put11 wr w.heap.size (.int .i64 d.kind) (.int .i64 d.fn) (.int .i64 d.win) (.int .i64 d.off) (.int .i64 d.k) (.int .i64 d.num) (.int .i64 d.den) (.string d.name) (.slice A1 n1 c1) (.slice A2 n2 c2) (.slice A3 n3 c3)) g A c N toks _ ∧ Agree (fun b _ => w.heap.size < b ∧ b ≠ lb) wr (put11 wr w.heap.size (.int .i64 d.kind) (.int .i64 d.fn) (.int .i64 d.win) (.int .i64 d.off) (.int .i64 d.k) (.int .i64 d.num) (.int .i64 d.den) (.string d.name) (.slice A1 n1 c1) (.slice A2 n2 c2) (.slice A3 n3 c3))) := ⟨HF.out.only.low_then (put11_below (Nat.le_refl _) ..), HF.out.st.onlyk (put11_only ..) HF.out.low, Agree.of_only (put11_only ..) fun b _ hb => by omega⟩
   have HBL : Box (Blk (put11 wr w.heap.size (.int .i64 d.kind) (.int .i64 d.fn) (.int .i64 d.win) (.int .i64 d.off) (.int .i64 d.k) (.int .i64 d.num) (.int .i64 d.den) (.string d.name) (.slice A1 n1 c1) (.slice A2 n2 c2) (.slice A3 n3 c3)) w.heap.size 29 (ndC d (.slice A1 n1 c1) (.slice A2 n2 c2) (.slice A3 n3 c3))) := ⟨put11_blk HF.out.res⟩
   show bodyPost _ _ _ _ _ (put11 wr w.heap.size (.int .i64 d.kind) (.int .i64 d.fn) (.int .i64 d.win) (.int .i64 d.off) (.int .i64 d.k) (.int .i64 d.num) (.int .i64 d.den) (.string d.name) (.slice A1 n1 c1) (.slice A2 n2 c2) (.slice A3 n3 c3))
   generalize put11 wr w.heap.size (.int .i64 d.kind) (.int .i64 d.fn) (.int .i64 d.win) (.int .i64 d.off) (.int .i64 d.k) (.int .i64 d.num) (.int .i64 d.den) (.string d.name) (.slice A1 n1 c1) (.slice A2 n2 c2) (.slice A3 n3 c3) = WF at HA HBL ⊢
   clear z0 z1 z2 z3 z4 z5 z6 z7 z8 z9 z10 zf k0 k1 k2 k3 k4 k5 k6 k7 k8 k9 k10
   obtain ⟨e0, e1, e2, e3, e4, e5, e6, e7, e8, e9, e10⟩ := blkE HBL.out
   have ef := HBL.out.frozen
   refine bodyPost_ret (v := .agg (ndC d (.slice A1 n1 c1) (.slice A2 n2 c2) (.slice A3 n3 c3))) (by simp [results, Tryz.results104, go_sem, e0, e1, e2, e3, e4, e5, e6, e7, e8, e9, e10, ef]) rfl ?_
   exact RetU.er HE.out HA.out.1 HA.out.2.1 ⟨_, _, _, _, _, _, _, _, _, _, rfl⟩
  ·obtain ⟨ks, m, hT, hm, hn, hL⟩ := hG ts rfl
   have HT := Box.mk hT
   have HL0 := Box.mk hL
   obtain ⟨m', hm'⟩ : ∃ m', m = m' + 1 := ⟨m - 1, by omega⟩
   subst hm'
   have HL : Box (Mm = opLoop Mop 2 (m' + 1) (.node d ks) ts) := ⟨HL0.out⟩
   have HMN := Box.mk (And.intro hm hn)
   have c4' : wr.cell? ⟨g, 4, none⟩ = some (.int .i64 0) := c4
   clear hF hE hG c4 hT hL HL0 hm hn
   obtain ⟨q1, Q1⟩ : ∃ q, Box (isT ts 3 (opAt 2) = q) := ⟨_, ⟨rfl⟩⟩
   obtain ⟨q2, Q2⟩ : ∃ q, Box (isT ts 3 (opAt 3) = q) := ⟨_, ⟨rfl⟩⟩
   have C1 : Box (∀ W', RX W' g A c N toks (.ok ts) → Calls Tryz.prog 105 #[.pointer (some ⟨g, 0, none⟩), .string ⟨#[42]⟩] W' fun e' w' => e' = .returned (.bool q1) ∧ ∃ m, w' = W'.drewN m) := ⟨fun W' hp => by
    have := ris_o (opAt 2) ⟨#[42]⟩ rfl ⟨42, [], rfl, by decide⟩ hp
    rw [Q1.out] at this; exact this⟩
   have C2 : Box (∀ W', RX W' g A c N toks (.ok ts) → Calls Tryz.prog 105 #[.pointer (some ⟨g, 0, none⟩), .string ⟨#[47]⟩] W' fun e' w' => e' = .returned (.bool q2) ∧ ∃ m, w' = W'.drewN m) := ⟨fun W' hp => by
    have := ris_o (opAt 3) ⟨#[47]⟩ rfl ⟨47, [], rfl, by decide⟩ hp
    rw [Q2.out] at this; exact this⟩
   go_upto_region 2 with (fail)
   go_cut [20] (fun v wx => v = .bool (q1 || q2) ∧ ∃ m, wx = wr.drewN m)
   case first =>
    cases q1
    ·cases q2
     all_goals
      go_wp2_with fail
      (with_reducible refine (C1.out _ HF.out.st).mono ?_)
      rintro e w3 ⟨rfl, m3, rfl⟩
      go_wp2_with fail
      (with_reducible refine (C2.out _ (HF.out.drewN m3).st).mono ?_)
      rintro e w4 ⟨rfl, m4, rfl⟩
      go_wp2_with fail
      go_meet
      exact ⟨rfl, m3 + m4, by simp⟩
    ·go_wp2_with fail
     (with_reducible refine (C1.out _ HF.out.st).mono ?_)
     rintro e w3 ⟨rfl, m3, rfl⟩
     go_wp2_with fail
     go_meet
     exact ⟨rfl, m3, rfl⟩
   case rest =>
    obtain ⟨rfl, m4, rfl⟩ := hcut
    have HF1 := Box.mk (HF.out.drewN m4)
    have HT1 := Box.mk (HT.out.belo (below_drewN wr m4))
    clear HF HT c4'
    generalize wr.drewN m4 = W at HF1 HT1 ⊢
    go_upto_if 20 with (fail)
    obtain ⟨q, HQQ⟩ : ∃ q, Box ((q1 || q2) = q) := ⟨_, ⟨rfl⟩⟩
    rw [HQQ.out]
    cases q
    ·have HE1 : q1 = false ∧ q2 = false := by have := HQQ.out; simpa using this
     have HQ : Box (Mm = .ok (.node d ks, ts)) := ⟨by rw [HL.out, opLoop, if_neg (by unfold opFn; rw [Q1.out, HE1.1, if_neg (by simp), Q2.out, HE1.2]; simp)]⟩
     obtain ⟨k0, k1, k2, k3, k4, k5, k6, k7, k8, k9, k10⟩ := blkE HF1.out.out
     obtain ⟨z0, z1, z2, z3, z4, z5, z6, z7, z8, z9, z10⟩ := blkE HF1.out.res
     have zf := HF1.out.res.frozen
     go_wp2_with fail
     have HA : Box (Only g w (put11 W w.heap.size (.int .i64 d.kind) (.int .i64 d.fn) (.int .i64 d.win) (.int .i64 d.off) (.int .i64 d.k) (.int .i64 d.num) (.int .i64 d.den) (.string d.name) (.slice A1 n1 c1) (.slice A2 n2 c2) (.slice A3 n3 c3)) ∧ RX (put11 W w.heap.size (.int .i64 d.kind) (.int .i64 d.fn) (.int .i64 d.win) (.int .i64 d.off) (.int .i64 d.k) (.int .i64 d.num) (.int .i64 d.den) (.string d.name) (.slice A1 n1 c1) (.slice A2 n2 c2) (.slice A3 n3 c3)) g A c N toks _ ∧ Agree (fun b _ => w.heap.size < b ∧ b ≠ lb) W (put11 W w.heap.size (.int .i64 d.kind) (.int .i64 d.fn) (.int .i64 d.win) (.int .i64 d.off) (.int .i64 d.k) (.int .i64 d.num) (.int .i64 d.den) (.string d.name) (.slice A1 n1 c1) (.slice A2 n2 c2) (.slice A3 n3 c3))) := ⟨HF1.out.only.low_then (put11_below (Nat.le_refl _) ..), HF1.out.st.onlyk (put11_only ..) HF1.out.low, Agree.of_only (put11_only ..) fun b _ hb => by omega⟩
     have HBL : Box (Blk (put11 W w.heap.size (.int .i64 d.kind) (.int .i64 d.fn) (.int .i64 d.win) (.int .i64 d.off) (.int .i64 d.k) (.int .i64 d.num) (.int .i64 d.den) (.string d.name) (.slice A1 n1 c1) (.slice A2 n2 c2) (.slice A3 n3 c3)) w.heap.size 29 (ndC d (.slice A1 n1 c1) (.slice A2 n2 c2) (.slice A3 n3 c3))) := ⟨put11_blk HF1.out.res⟩
     show bodyPost _ _ _ _ _ (put11 W w.heap.size (.int .i64 d.kind) (.int .i64 d.fn) (.int .i64 d.win) (.int .i64 d.off) (.int .i64 d.k) (.int .i64 d.num) (.int .i64 d.den) (.string d.name) (.slice A1 n1 c1) (.slice A2 n2 c2) (.slice A3 n3 c3))
     generalize put11 W w.heap.size (.int .i64 d.kind) (.int .i64 d.fn) (.int .i64 d.win) (.int .i64 d.off) (.int .i64 d.k) (.int .i64 d.num) (.int .i64 d.den) (.string d.name) (.slice A1 n1 c1) (.slice A2 n2 c2) (.slice A3 n3 c3) = WF at HA HBL ⊢
     clear z0 z1 z2 z3 z4 z5 z6 z7 z8 z9 z10 zf k0 k1 k2 k3 k4 k5 k6 k7 k8 k9 k10
     obtain ⟨e0, e1, e2, e3, e4, e5, e6, e7, e8, e9, e10⟩ := blkE HBL.out
     have ef := HBL.out.frozen
     refine bodyPost_ret (v := .agg (ndC d (.slice A1 n1 c1) (.slice A2 n2 c2) (.slice A3 n3 c3))) (by simp [results, Tryz.results104, go_sem, e0, e1, e2, e3, e4, e5, e6, e7, e8, e9, e10, ef]) rfl ?_
     exact RetU.ok HQ.out HA.out.1 HA.out.2.1 ⟨_, _, _, rfl, (HT1.out.keep HA.out.2.2).mono fun b e _ hb => by omega⟩
    ·obtain ⟨fn, HFN⟩ : ∃ fn : Nat, Box (fn = if q1 = true then 2 else 3) := ⟨_, ⟨rfl⟩⟩
     have HLQ : Box (Mm = andR (Mop ts.tail) fun right ts' => opLoop Mop 2 m' (binT fn (.node d ks) right) ts') := ⟨by
      rw [HL.out]
      have hq := HQQ.out
      have h1 := Q1.out
      have h2 := Q2.out
      have h3 := HFN.out
      cases q1
      ·have hq2 : q2 = true := by simpa using hq
       rw [h3]
       exact opLoop_go (by unfold opFn; rw [h1, if_neg (by simp)]) (by rw [if_neg (by simp), h2, hq2])
      ·rw [h3]
       exact opLoop_go (by unfold opFn; rw [h1, if_pos rfl]) (by rw [if_pos rfl, h1])⟩
     have HNE : Box (ts ≠ []) := ⟨fun h0 => by
      have hq := HQQ.out
      have h1 := Q1.out
      have h2 := Q2.out
      rw [h0] at h1 h2
      have h1' : false = q1 := h1
      have h2' : false = q2 := h2
      rw [← h1', ← h2'] at hq; cases hq⟩
     have HQ21 : Box (q1 = true → q2 = false) := ⟨fun h => by rw [← Q2.out]; exact isT_no (x := opAt 2) (by rw [Q1.out, h]) (by decide)⟩
     go_upto_if 22 with ((with_reducible refine (C2.out _ HF1.out.st).mono ?_); rintro e w3 ⟨rfl, m3, rfl⟩)
     have HF2 := Box.mk (HF1.out.drewN m3)
     have HT2 := Box.mk (HT1.out.belo (below_drewN W m3))
     clear HF1 HT1
     generalize W.drewN m3 = W3 at HF2 HT2 ⊢
     go_cut [4] (fun v wx => v = .int .i64 (fn : Int) ∧ wx = W3)
     case first =>
      have h3 := HFN.out
      have h21 := HQ21.out
      have hq := HQQ.out
      cases q1
      ·have hq2 : q2 = true := by simpa using hq
       subst hq2
       have h3' : fn = 3 := by simpa using h3
       clear h3 h21 hq
       go_wp2_with fail
       go_meet
       exact ⟨by rw [h3']; rfl, rfl⟩
      ·have hq2 : q2 = false := h21 rfl
       subst hq2
       have h3' : fn = 2 := by simpa using h3
       clear h3 h21 hq
       go_wp2_with fail
       go_meet
       exact ⟨by rw [h3']; rfl, rfl⟩
     case rest =>
      obtain ⟨rfl, rfl⟩ := hcut
      go_wp2_with fail
      refine (rtake_u (fun ts' hs => by cases hs; exact HNE.out) HF2.out.st).mono ?_
      rintro e w4 ⟨rfl, ho, hp⟩
      have HF3 : Box (RF w w4 g A c N toks (.ok ts.tail) lb (ndC d (.slice A1 n1 c1) (.slice A2 n2 c2) (.slice A3 n3 c3))) := ⟨HF2.out.step ho hp⟩
      have HT3 := Box.mk (HT2.out.keep (Agree.of_only ho fun b _ hb => by have := HF2.out.low; omega))
      have HLT : Box (ts.tail.length < n ∧ ts.tail.length < ts.length ∧ lb < w4.heap.size ∧ ts.length < m' + 1) := ⟨by
       have h1 := HMN.out
       have h2 := HF3.out.out.lt
       have h3 : 0 < ts.length := List.length_pos_iff.2 HNE.out
       rw [List.length_tail]
       omega⟩
      clear ho hp HF2 HT2
      go_wp2_with fail
      refine (HOP.out _ (.ok ts.tail) (fun ts' hs => by cases hs; exact HLT.out.1) HF3.out.st).mono ?_
      intro e w5 hx
      obtain ⟨ho, hp, d2, B1, y1, h1, B2, y2, h2, B3, y3, h3, rfl, hvt⟩ := hx.tree
      obtain ⟨s5, HS5⟩ : ∃ s5, Box (sOf (bindS (.ok ts.tail) Mop) = s5) := ⟨_, ⟨rfl⟩⟩
      rw [HS5.out] at hp
      have HF4 := Box.mk (HF3.out.step ho hp)
      have HT4 := Box.mk (HT3.out.keep (Agree.of_only ho fun b _ hb => by have := HF3.out.low; omega))
      have HVT := Box.mk hvt
      clear ho hp hx hvt HF3 HT3
      have HN5 : Box (lb < w5.heap.size) := ⟨HF4.out.out.lt⟩
      go_upto_region 8 with (fail)
      have HF5 := Box.mk (HF4.out.next (bel1 w5 (.cells (ndC d2 (.slice B1 y1 h1) (.slice B2 y2 h2) (.slice B3 y3 h3)) 29)))
      have HT5 := Box.mk (HT4.out.belo (bel1 w5 (.cells (ndC d2 (.slice B1 y1 h1) (.slice B2 y2 h2) (.slice B3 y3 h3)) 29)))
      have HVT5 : Box (∀ t us, bindS (.ok ts.tail) Mop = .ok (t, us) → ∃ ks, t = .node d2 ks ∧ TreeAt (w5.alloc (.cells (ndC d2 (.slice B1 y1 h1) (.slice B2 y2 h2) (.slice B3 y3 h3)) 29)) (fun b _ => w4.heap.size ≤ b) (.node d2 ks) ((.slice B1 y1 h1), (.slice B2 y2 h2), (.slice B3 y3 h3))) := ⟨fun t us hq => by
       obtain ⟨ks2, e1, e2⟩ := HVT.out t us hq
       exact ⟨ks2, e1, e2.belo (bel1 _ _)⟩⟩
      have HRB : Box (Blk (w5.alloc (.cells (ndC d2 (.slice B1 y1 h1) (.slice B2 y2 h2) (.slice B3 y3 h3)) 29)) w5.heap.size 29 (ndC d2 (.slice B1 y1 h1) (.slice B2 y2 h2) (.slice B3 y3 h3))) := ⟨Blk.new _ _ _⟩
      clear HF4 HT4 HVT
      obtain ⟨rb, hrb⟩ : ∃ rb, w5.heap.size = rb := ⟨_, rfl⟩
      rw [hrb] at HRB ⊢
      generalize w5.alloc (.cells (ndC d2 (.slice B1 y1 h1) (.slice B2 y2 h2) (.slice B3 y3 h3)) 29) = W6 at HF5 HT5 HVT5 HRB ⊢
      clear hrb
      have cf := HF5.out.out.frozen
      obtain ⟨k0, k1, k2, k3, k4, k5, k6, k7, k8, k9, k10⟩ := blkE HF5.out.out
      obtain ⟨r0, r1, r2, r3, r4, r5, r6, r7, r8, r9, r10⟩ := blkE HRB.out
      have hlb6 := HF5.out.out.lt
      have hnb6 : ¬ lb = W6.heap.size := by omega
      have hnb7 : ¬ W6.heap.size = lb := by omega
      have HB := Box.mk (bin_of (fn := fn) (e2 := d2) (m2 := (.slice B1 y1 h1)) (v2 := (.slice B2 y2 h2)) (k2 := (.slice B3 y3 h3)) (by have := HFN.out; split at this <;> omega) HF5.out)
      go_wp2_with fail
      have HSL := Box.mk HB.out.1.st.left
      have HSM : Box (∀ ts', s5 = .ok ts' → ts'.length < ts.tail.length) := ⟨fun ts' hs => by
       have h5 : sOf (Mop ts.tail) = s5 := HS5.out
       rw [hs] at h5
       cases hq : Mop ts.tail with
       | error e => rw [hq] at h5; cases h5
       | ok p => obtain ⟨t2, us⟩ := p; rw [hq] at h5; cases h5; exact HMO.out _ _ _ hq⟩
      clear k0 k1 k2 k3 k4 k5 k6 k7 k8 k9 k10 cf r0 r1 r2 r3 r4 r5 r6 r7 r8 r9 r10 hlb6 hnb6 hnb7
      go_roundw
      ·refine ⟨s5, ⟨3, (fn : Int), 0, 0, 0, 0, 0, ⟨#[]⟩, [], []⟩, none, 0, 0, none, 0, 0, some ⟨W6.heap.size, 0, none⟩, 2, 2, HB.out.1, fun f hf => ?_, fun ts' hf => ?_⟩
       ·rw [HLQ.out]
        have h5 : sOf (Mop ts.tail) = s5 := HS5.out
        rw [hf] at h5
        cases hq : Mop ts.tail with
        | error e => rw [hq] at h5; cases h5; rfl
        | ok p => rw [hq] at h5; cases h5
       ·have h5 : sOf (Mop ts.tail) = s5 := HS5.out
        have hsm := HSM.out ts' hf
        rw [hf] at h5
        cases hq : Mop ts.tail with
        | error e => rw [hq] at h5; cases h5
        | ok p =>
         obtain ⟨t2, us⟩ := p
         rw [hq] at h5
         have hu : us = ts' := by cases h5; rfl
         obtain ⟨es2, rfl, ht2⟩ := HVT5.out t2 us hq
         exact ⟨[.node d ks, .node d2 es2], m', HB.out.2 ks es2 _ HLT.out.2.2.1 HT5.out ht2, by have := HLT.out; omega, by have := HLT.out; omega, by rw [HLQ.out, hq, ← hu]; rfl⟩
      ·rw [HMS.out, HSL.out]
       cases hs : s5 with
       | error f => simp only [leftS]; omega
       | ok ts' => have := HSM.out ts' hs; have := HLT.out; simp only [leftS]; omega
set_option maxHeartbeats 2000000 in
set_option maxRecDepth 100000 in
theorem rsum_of {g : Nat} {A : Option Addr} {c : Nat} {N : Int} {toks : List Tok} {n : Nat} {Mop : List Tok → Res Tree} (hM : ∀ us, Sho (Mop us) us) (hO : TreeOk 104 g A c N toks Mop n) : TreeOk 68 g A c N toks (operM Mop 0) n := by
 intro w s hlen h
 have HOP := Box.mk hO
 have HMO := Box.mk hM
 have HLE := Box.mk hlen
 have hg := h.lt
 have HP0 : Box (RX (w.alloc (.cells zeroC 29)) g A c N toks s) := ⟨h.below (bel1 _ _)⟩
 obtain ⟨Mm, HMM⟩ : ∃ Mm, Box (bindS s (operM Mop 0) = Mm) := ⟨_, ⟨rfl⟩⟩
 rw [HMM.out]
 clear h hO hM hlen
 go_enter Tryz.func68, Tryz.ntmps68
 go_wp2_with fail
 refine (HOP.out _ s HLE.out HP0.out).mono ?_
 intro e w1 hx
 obtain ⟨ho, hp, d, A1, n1, c1, A2, n2, c2, A3, n3, c3, rfl, hvt⟩ := hx.tree
 have hz : w.heap.size + 1 ≤ w1.heap.size := by have := ho.size; simpa using this
 obtain ⟨lb, hlb⟩ : ∃ lb, w1.heap.size = lb := ⟨_, rfl⟩
 have HI : Box (LpI w g A c N toks lb n Mop 0 Mm (w1.alloc (.cells (ndC d (.slice A1 n1 c1) (.slice A2 n2 c2) (.slice A3 n3 c3)) 29))) := ⟨by
  refine ⟨sOf (bindS s Mop), d, A1, n1, c1, A2, n2, c2, A3, n3, c3, ⟨((Only.of_below (bel1 w _)).trans ho).trans (Only.of_below (bel1 w1 _)), hp.below (bel1 _ _), (ho.blk (Blk.new w zeroC 29) (by omega)).alloc _, hlb ▸ Blk.new w1 (ndC d (.slice A1 n1 c1) (.slice A2 n2 c2) (.slice A3 n3 c3)) 29, by omega, hg⟩, fun f hf => ?_, fun ts hf => ?_⟩
  ·rw [← HMM.out]
   match s, hf with
   | .error e, hf => have hf' : (Except.error e : StP) = .error f := hf; cases hf'; rfl
   | .ok ts0, hf =>
    have hf' : sOf (Mop ts0) = .error f := hf
    show andR (Mop ts0) _ = .error f
    cases hq : Mop ts0 with
    | error e => rw [hq] at hf'; cases hf'; rfl
    | ok p => rw [hq] at hf'; cases hf'
  ·match s, hf, hvt, HLE.out, HMM.out with
   | .error e, hf, _, _, _ => cases hf
   | .ok ts0, hf, hvt, hle, hmm =>
    have hf' : sOf (Mop ts0) = .ok ts := hf
    cases hq : Mop ts0 with
    | error e => rw [hq] at hf'; cases hf'
    | ok p =>
     obtain ⟨t, us⟩ := p
     rw [hq] at hf'
     have hu : us = ts := by cases hf'; rfl
     subst hu
     obtain ⟨ks, rfl, ht⟩ := hvt t us hq
     refine ⟨ks, us.length + 1, (ht.mono (Q := fun b _ => w.heap.size < b ∧ b ≠ lb) fun b e hb hP => ?_).belo (bel1 _ _), by omega, by have := HMO.out ts0 _ _ hq; have := hle ts0 rfl; omega, ?_⟩
     ·have hP' : (w.alloc (.cells zeroC 29)).heap.size ≤ b := hP
      simp at hP'
      exact ⟨by omega, by omega⟩
     ·rw [← hmm]; show andR (Mop ts0) _ = _; rw [hq]; rfl⟩
 clear ho hp hx hvt HP0
 go_wp2_with fail
 go_loopw [] (fun wr => LpI w g A c N toks lb n Mop 0 Mm wr) (fun wr => leftX g toks.length wr)
 case atStart => exact HI.out
 case round =>
  clear HI
  obtain ⟨s, d, A1, n1, c1, A2, n2, c2, A3, n3, c3, hF, hE, hG⟩ := hrel
  have HF := Box.mk hF
  have HMS := Box.mk hF.st.left
  have c4 := hF.st.err
  rcases s with f | ts
  ·have HE := Box.mk (hE f rfl)
   have he2 : (f.2 == 0) = false := by have := hF.st.bad rfl; simp [this]
   have c4' : wr.cell? ⟨g, 4, none⟩ = some (.int .i64 f.2) := c4
   clear hF hE hG c4
   obtain ⟨k0, k1, k2, k3, k4, k5, k6, k7, k8, k9, k10⟩ := blkE HF.out.out
   obtain ⟨z0, z1, z2, z3, z4, z5, z6, z7, z8, z9, z10⟩ := blkE HF.out.res
   have zf := HF.out.res.frozen
   go_wp2_with fail
   have HA : Box (Only g w (put11 wr w.heap.size (.int .i64 d.kind) (.int .i64 d.fn) (.int .i64 d.win) (.int .i64 d.off) (.int .i64 d.k) (.int .i64 d.num) (.int .i64 d.den) (.string d.name) (.slice A1 n1 c1) (.slice A2 n2 c2) (.slice A3 n3 c3)) ∧ RX (put11 wr w.heap.size (.int .i64 d.kind) (.int .i64 d.fn) (.int .i64 d.win) (.int .i64 d.off) (.int .i64 d.k) (.int .i64 d.num) (.int .i64 d.den) (.string d.name) (.slice A1 n1 c1) (.slice A2 n2 c2) (.slice A3 n3 c3)) g A c N toks _ ∧ Agree (fun b _ => w.heap.size < b ∧ b ≠ lb) wr (put11 wr w.heap.size (.int .i64 d.kind) (.int .i64 d.fn) (.int .i64 d.win) (.int .i64 d.off) (.int .i64 d.k) (.int .i64 d.num) (.int .i64 d.den) (.string d.name) (.slice A1 n1 c1) (.slice A2 n2 c2) (.slice A3 n3 c3))) := ⟨HF.out.only.low_then (put11_below (Nat.le_refl _) ..), HF.out.st.onlyk (put11_only ..) HF.out.low, Agree.of_only (put11_only ..) fun b _ hb => by omega⟩
   have HBL : Box (Blk (put11 wr w.heap.size (.int .i64 d.kind) (.int .i64 d.fn) (.int .i64 d.win) (.int .i64 d.off) (.int .i64 d.k) (.int .i64 d.num) (.int .i64 d.den) (.string d.name) (.slice A1 n1 c1) (.slice A2 n2 c2) (.slice A3 n3 c3)) w.heap.size 29 (ndC d (.slice A1 n1 c1) (.slice A2 n2 c2) (.slice A3 n3 c3))) := ⟨put11_blk HF.out.res⟩
   show bodyPost _ _ _ _ _ (put11 wr w.heap.size (.int .i64 d.kind) (.int .i64 d.fn) (.int .i64 d.win) (.int .i64 d.off) (.int .i64 d.k) (.int .i64 d.num) (.int .i64 d.den) (.string d.name) (.slice A1 n1 c1) (.slice A2 n2 c2) (.slice A3 n3 c3))
   generalize put11 wr w.heap.size (.int .i64 d.kind) (.int .i64 d.fn) (.int .i64 d.win) (.int .i64 d.off) (.int .i64 d.k) (.int .i64 d.num) (.int .i64 d.den) (.string d.name) (.slice A1 n1 c1) (.slice A2 n2 c2) (.slice A3 n3 c3) = WF at HA HBL ⊢
   clear z0 z1 z2 z3 z4 z5 z6 z7 z8 z9 z10 zf k0 k1 k2 k3 k4 k5 k6 k7 k8 k9 k10
   obtain ⟨e0, e1, e2, e3, e4, e5, e6, e7, e8, e9, e10⟩ := blkE HBL.out
   have ef := HBL.out.frozen
   refine bodyPost_ret (v := .agg (ndC d (.slice A1 n1 c1) (.slice A2 n2 c2) (.slice A3 n3 c3))) (by simp [results, Tryz.results68, go_sem, e0, e1, e2, e3, e4, e5, e6, e7, e8, e9, e10, ef]) rfl ?_
   exact RetU.er HE.out HA.out.1 HA.out.2.1 ⟨_, _, _, _, _, _, _, _, _, _, rfl⟩
  ·obtain ⟨ks, m, hT, hm, hn, hL⟩ := hG ts rfl
   have HT := Box.mk hT
   have HL0 := Box.mk hL
   obtain ⟨m', hm'⟩ : ∃ m', m = m' + 1 := ⟨m - 1, by omega⟩
   subst hm'
   have HL : Box (Mm = opLoop Mop 0 (m' + 1) (.node d ks) ts) := ⟨HL0.out⟩
   have HMN := Box.mk (And.intro hm hn)
   have c4' : wr.cell? ⟨g, 4, none⟩ = some (.int .i64 0) := c4
   clear hF hE hG c4 hT hL HL0 hm hn
   obtain ⟨q1, Q1⟩ : ∃ q, Box (isT ts 3 (opAt 0) = q) := ⟨_, ⟨rfl⟩⟩
   obtain ⟨q2, Q2⟩ : ∃ q, Box (isT ts 3 (opAt 1) = q) := ⟨_, ⟨rfl⟩⟩
   have C1 : Box (∀ W', RX W' g A c N toks (.ok ts) → Calls Tryz.prog 105 #[.pointer (some ⟨g, 0, none⟩), .string ⟨#[43]⟩] W' fun e' w' => e' = .returned (.bool q1) ∧ ∃ m, w' = W'.drewN m) := ⟨fun W' hp => by
    have := ris_o (opAt 0) ⟨#[43]⟩ rfl ⟨43, [], rfl, by decide⟩ hp
    rw [Q1.out] at this; exact this⟩
   have C2 : Box (∀ W', RX W' g A c N toks (.ok ts) → Calls Tryz.prog 105 #[.pointer (some ⟨g, 0, none⟩), .string ⟨#[45]⟩] W' fun e' w' => e' = .returned (.bool q2) ∧ ∃ m, w' = W'.drewN m) := ⟨fun W' hp => by
    have := ris_o (opAt 1) ⟨#[45]⟩ rfl ⟨45, [], rfl, by decide⟩ hp
    rw [Q2.out] at this; exact this⟩
   go_upto_region 2 with (fail)
   go_cut [20] (fun v wx => v = .bool (q1 || q2) ∧ ∃ m, wx = wr.drewN m)
   case first =>
    cases q1
    ·cases q2
     all_goals
      go_wp2_with fail
      (with_reducible refine (C1.out _ HF.out.st).mono ?_)
      rintro e w3 ⟨rfl, m3, rfl⟩
      go_wp2_with fail
      (with_reducible refine (C2.out _ (HF.out.drewN m3).st).mono ?_)
      rintro e w4 ⟨rfl, m4, rfl⟩
      go_wp2_with fail
      go_meet
      exact ⟨rfl, m3 + m4, by simp⟩
    ·go_wp2_with fail
     (with_reducible refine (C1.out _ HF.out.st).mono ?_)
     rintro e w3 ⟨rfl, m3, rfl⟩
     go_wp2_with fail
     go_meet
     exact ⟨rfl, m3, rfl⟩
   case rest =>
    obtain ⟨rfl, m4, rfl⟩ := hcut
    have HF1 := Box.mk (HF.out.drewN m4)
    have HT1 := Box.mk (HT.out.belo (below_drewN wr m4))
    clear HF HT c4'
    generalize wr.drewN m4 = W at HF1 HT1 ⊢
    go_upto_if 20 with (fail)
    obtain ⟨q, HQQ⟩ : ∃ q, Box ((q1 || q2) = q) := ⟨_, ⟨rfl⟩⟩
    rw [HQQ.out]
    cases q
    ·have HE1 : q1 = false ∧ q2 = false := by have := HQQ.out; simpa using this
     have HQ : Box (Mm = .ok (.node d ks, ts)) := ⟨by rw [HL.out, opLoop, if_neg (by unfold opFn; rw [Q1.out, HE1.1, if_neg (by simp), Q2.out, HE1.2]; simp)]⟩
     obtain ⟨k0, k1, k2, k3, k4, k5, k6, k7, k8, k9, k10⟩ := blkE HF1.out.out
     obtain ⟨z0, z1, z2, z3, z4, z5, z6, z7, z8, z9, z10⟩ := blkE HF1.out.res
     have zf := HF1.out.res.frozen
     go_wp2_with fail
     have HA : Box (Only g w (put11 W w.heap.size (.int .i64 d.kind) (.int .i64 d.fn) (.int .i64 d.win) (.int .i64 d.off) (.int .i64 d.k) (.int .i64 d.num) (.int .i64 d.den) (.string d.name) (.slice A1 n1 c1) (.slice A2 n2 c2) (.slice A3 n3 c3)) ∧ RX (put11 W w.heap.size (.int .i64 d.kind) (.int .i64 d.fn) (.int .i64 d.win) (.int .i64 d.off) (.int .i64 d.k) (.int .i64 d.num) (.int .i64 d.den) (.string d.name) (.slice A1 n1 c1) (.slice A2 n2 c2) (.slice A3 n3 c3)) g A c N toks _ ∧ Agree (fun b _ => w.heap.size < b ∧ b ≠ lb) W (put11 W w.heap.size (.int .i64 d.kind) (.int .i64 d.fn) (.int .i64 d.win) (.int .i64 d.off) (.int .i64 d.k) (.int .i64 d.num) (.int .i64 d.den) (.string d.name) (.slice A1 n1 c1) (.slice A2 n2 c2) (.slice A3 n3 c3))) := ⟨HF1.out.only.low_then (put11_below (Nat.le_refl _) ..), HF1.out.st.onlyk (put11_only ..) HF1.out.low, Agree.of_only (put11_only ..) fun b _ hb => by omega⟩
     have HBL : Box (Blk (put11 W w.heap.size (.int .i64 d.kind) (.int .i64 d.fn) (.int .i64 d.win) (.int .i64 d.off) (.int .i64 d.k) (.int .i64 d.num) (.int .i64 d.den) (.string d.name) (.slice A1 n1 c1) (.slice A2 n2 c2) (.slice A3 n3 c3)) w.heap.size 29 (ndC d (.slice A1 n1 c1) (.slice A2 n2 c2) (.slice A3 n3 c3))) := ⟨put11_blk HF1.out.res⟩
     show bodyPost _ _ _ _ _ (put11 W w.heap.size (.int .i64 d.kind) (.int .i64 d.fn) (.int .i64 d.win) (.int .i64 d.off) (.int .i64 d.k) (.int .i64 d.num) (.int .i64 d.den) (.string d.name) (.slice A1 n1 c1) (.slice A2 n2 c2) (.slice A3 n3 c3))
     generalize put11 W w.heap.size (.int .i64 d.kind) (.int .i64 d.fn) (.int .i64 d.win) (.int .i64 d.off) (.int .i64 d.k) (.int .i64 d.num) (.int .i64 d.den) (.string d.name) (.slice A1 n1 c1) (.slice A2 n2 c2) (.slice A3 n3 c3) = WF at HA HBL ⊢
     clear z0 z1 z2 z3 z4 z5 z6 z7 z8 z9 z10 zf k0 k1 k2 k3 k4 k5 k6 k7 k8 k9 k10
     obtain ⟨e0, e1, e2, e3, e4, e5, e6, e7, e8, e9, e10⟩ := blkE HBL.out
     have ef := HBL.out.frozen
     refine bodyPost_ret (v := .agg (ndC d (.slice A1 n1 c1) (.slice A2 n2 c2) (.slice A3 n3 c3))) (by simp [results, Tryz.results68, go_sem, e0, e1, e2, e3, e4, e5, e6, e7, e8, e9, e10, ef]) rfl ?_
     exact RetU.ok HQ.out HA.out.1 HA.out.2.1 ⟨_, _, _, rfl, (HT1.out.keep HA.out.2.2).mono fun b e _ hb => by omega⟩
    ·obtain ⟨fn, HFN⟩ : ∃ fn : Nat, Box (fn = if q1 = true then 0 else 1) := ⟨_, ⟨rfl⟩⟩
     have HLQ : Box (Mm = andR (Mop ts.tail) fun right ts' => opLoop Mop 0 m' (binT fn (.node d ks) right) ts') := ⟨by
      rw [HL.out]
      have hq := HQQ.out
      have h1 := Q1.out
      have h2 := Q2.out
      have h3 := HFN.out
      cases q1
      ·have hq2 : q2 = true := by simpa using hq
       rw [h3]
       exact opLoop_go (by unfold opFn; rw [h1, if_neg (by simp)]) (by rw [if_neg (by simp), h2, hq2])
      ·rw [h3]
       exact opLoop_go (by unfold opFn; rw [h1, if_pos rfl]) (by rw [if_pos rfl, h1])⟩
     have HNE : Box (ts ≠ []) := ⟨fun h0 => by
      have hq := HQQ.out
      have h1 := Q1.out
      have h2 := Q2.out
      rw [h0] at h1 h2
      have h1' : false = q1 := h1
      have h2' : false = q2 := h2
      rw [← h1', ← h2'] at hq; cases hq⟩
     have HQ21 : Box (q1 = true → q2 = false) := ⟨fun h => by rw [← Q2.out]; exact isT_no (x := opAt 0) (by rw [Q1.out, h]) (by decide)⟩
     go_upto_if 22 with ((with_reducible refine (C2.out _ HF1.out.st).mono ?_); rintro e w3 ⟨rfl, m3, rfl⟩)
     have HF2 := Box.mk (HF1.out.drewN m3)
     have HT2 := Box.mk (HT1.out.belo (below_drewN W m3))
     clear HF1 HT1
     generalize W.drewN m3 = W3 at HF2 HT2 ⊢
     go_cut [4] (fun v wx => v = .int .i64 (fn : Int) ∧ wx = W3)
     case first =>
      have h3 := HFN.out
      have h21 := HQ21.out
      have hq := HQQ.out
      cases q1
      ·have hq2 : q2 = true := by simpa using hq
       subst hq2
       have h3' : fn = 1 := by simpa using h3
       clear h3 h21 hq
       go_wp2_with fail
       go_meet
       exact ⟨by rw [h3']; rfl, rfl⟩
      ·have hq2 : q2 = false := h21 rfl
       subst hq2
       have h3' : fn = 0 := by simpa using h3
       clear h3 h21 hq
       go_wp2_with fail
       go_meet
       exact ⟨by rw [h3']; rfl, rfl⟩
     case rest =>
      obtain ⟨rfl, rfl⟩ := hcut
      go_wp2_with fail
      refine (rtake_u (fun ts' hs => by cases hs; exact HNE.out) HF2.out.st).mono ?_
      rintro e w4 ⟨rfl, ho, hp⟩
      have HF3 : Box (RF w w4 g A c N toks (.ok ts.tail) lb (ndC d (.slice A1 n1 c1) (.slice A2 n2 c2) (.slice A3 n3 c3))) := ⟨HF2.out.step ho hp⟩
      have HT3 := Box.mk (HT2.out.keep (Agree.of_only ho fun b _ hb => by have := HF2.out.low; omega))
      have HLT : Box (ts.tail.length < n ∧ ts.tail.length < ts.length ∧ lb < w4.heap.size ∧ ts.length < m' + 1) := ⟨by
       have h1 := HMN.out
       have h2 := HF3.out.out.lt
       have h3 : 0 < ts.length := List.length_pos_iff.2 HNE.out
       rw [List.length_tail]
       omega⟩
      clear ho hp HF2 HT2
      go_wp2_with fail
      refine (HOP.out _ (.ok ts.tail) (fun ts' hs => by cases hs; exact HLT.out.1) HF3.out.st).mono ?_
      intro e w5 hx
      obtain ⟨ho, hp, d2, B1, y1, h1, B2, y2, h2, B3, y3, h3, rfl, hvt⟩ := hx.tree
      obtain ⟨s5, HS5⟩ : ∃ s5, Box (sOf (bindS (.ok ts.tail) Mop) = s5) := ⟨_, ⟨rfl⟩⟩
      rw [HS5.out] at hp
      have HF4 := Box.mk (HF3.out.step ho hp)
      have HT4 := Box.mk (HT3.out.keep (Agree.of_only ho fun b _ hb => by have := HF3.out.low; omega))
      have HVT := Box.mk hvt
      clear ho hp hx hvt HF3 HT3
      have HN5 : Box (lb < w5.heap.size) := ⟨HF4.out.out.lt⟩
      go_upto_region 8 with (fail)
      have HF5 := Box.mk (HF4.out.next (bel1 w5 (.cells (ndC d2 (.slice B1 y1 h1) (.slice B2 y2 h2) (.slice B3 y3 h3)) 29)))
      have HT5 := Box.mk (HT4.out.belo (bel1 w5 (.cells (ndC d2 (.slice B1 y1 h1) (.slice B2 y2 h2) (.slice B3 y3 h3)) 29)))
      have HVT5 : Box (∀ t us, bindS (.ok ts.tail) Mop = .ok (t, us) → ∃ ks, t = .node d2 ks ∧ TreeAt (w5.alloc (.cells (ndC d2 (.slice B1 y1 h1) (.slice B2 y2 h2) (.slice B3 y3 h3)) 29)) (fun b _ => w4.heap.size ≤ b) (.node d2 ks) ((.slice B1 y1 h1), (.slice B2 y2 h2), (.slice B3 y3 h3))) := ⟨fun t us hq => by
       obtain ⟨ks2, e1, e2⟩ := HVT.out t us hq
       exact ⟨ks2, e1, e2.belo (bel1 _ _)⟩⟩
      have HRB : Box (Blk (w5.alloc (.cells (ndC d2 (.slice B1 y1 h1) (.slice B2 y2 h2) (.slice B3 y3 h3)) 29)) w5.heap.size 29 (ndC d2 (.slice B1 y1 h1) (.slice B2 y2 h2) (.slice B3 y3 h3))) := ⟨Blk.new _ _ _⟩
      clear HF4 HT4 HVT
      obtain ⟨rb, hrb⟩ : ∃ rb, w5.heap.size = rb := ⟨_, rfl⟩
      rw [hrb] at HRB ⊢
      generalize w5.alloc (.cells (ndC d2 (.slice B1 y1 h1) (.slice B2 y2 h2) (.slice B3 y3 h3)) 29) = W6 at HF5 HT5 HVT5 HRB ⊢
      clear hrb
      have cf := HF5.out.out.frozen
      obtain ⟨k0, k1, k2, k3, k4, k5, k6, k7, k8, k9, k10⟩ := blkE HF5.out.out
      obtain ⟨r0, r1, r2, r3, r4, r5, r6, r7, r8, r9, r10⟩ := blkE HRB.out
      have hlb6 := HF5.out.out.lt
      have hnb6 : ¬ lb = W6.heap.size := by omega
      have hnb7 : ¬ W6.heap.size = lb := by omega
      have HB := Box.mk (bin_of (fn := fn) (e2 := d2) (m2 := (.slice B1 y1 h1)) (v2 := (.slice B2 y2 h2)) (k2 := (.slice B3 y3 h3)) (by have := HFN.out; split at this <;> omega) HF5.out)
      go_wp2_with fail
      have HSL := Box.mk HB.out.1.st.left
      have HSM : Box (∀ ts', s5 = .ok ts' → ts'.length < ts.tail.length) := ⟨fun ts' hs => by
       have h5 : sOf (Mop ts.tail) = s5 := HS5.out
       rw [hs] at h5
       cases hq : Mop ts.tail with
       | error e => rw [hq] at h5; cases h5
       | ok p => obtain ⟨t2, us⟩ := p; rw [hq] at h5; cases h5; exact HMO.out _ _ _ hq⟩
      clear k0 k1 k2 k3 k4 k5 k6 k7 k8 k9 k10 cf r0 r1 r2 r3 r4 r5 r6 r7 r8 r9 r10 hlb6 hnb6 hnb7
      go_roundw
      ·refine ⟨s5, ⟨3, (fn : Int), 0, 0, 0, 0, 0, ⟨#[]⟩, [], []⟩, none, 0, 0, none, 0, 0, some ⟨W6.heap.size, 0, none⟩, 2, 2, HB.out.1, fun f hf => ?_, fun ts' hf => ?_⟩
       ·rw [HLQ.out]
        have h5 : sOf (Mop ts.tail) = s5 := HS5.out
        rw [hf] at h5
        cases hq : Mop ts.tail with
        | error e => rw [hq] at h5; cases h5; rfl
        | ok p => rw [hq] at h5; cases h5
       ·have h5 : sOf (Mop ts.tail) = s5 := HS5.out
        have hsm := HSM.out ts' hf
        rw [hf] at h5
        cases hq : Mop ts.tail with
        | error e => rw [hq] at h5; cases h5
        | ok p =>
         obtain ⟨t2, us⟩ := p
         rw [hq] at h5
         have hu : us = ts' := by cases h5; rfl
         obtain ⟨es2, rfl, ht2⟩ := HVT5.out t2 us hq
         exact ⟨[.node d ks, .node d2 es2], m', HB.out.2 ks es2 _ HLT.out.2.2.1 HT5.out ht2, by have := HLT.out; omega, by have := HLT.out; omega, by rw [HLQ.out, hq, ← hu]; rfl⟩
      ·rw [HMS.out, HSL.out]
       cases hs : s5 with
       | error f => simp only [leftS]; omega
       | ok ts' => have := HSM.out ts' hs; have := HLT.out; simp only [leftS]; omega
end
end Go.Proofs.YthoibeajhdhdhaaGreatDoor
