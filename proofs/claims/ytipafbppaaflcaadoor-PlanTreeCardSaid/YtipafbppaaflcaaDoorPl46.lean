/- Contracts, packed: Ss. -/
import Derived.Test.YtipafbppaaflcaaDoorPl45
set_option linter.unusedVariables false
set_option linter.unusedSimpArgs false
namespace Go.Proofs.YtipafbppaaflcaaDoor
section
open Go.RowKit FracM
/-- the state of Cut: the node's copy, the result's block, out with the kids so far -/
structure CutSt (w wr : World) (P : Nat → Nat → Prop) (d : Nd) (mv bv kv : Value) (ts : List Tree) (ss : List Sl) (kvo : Value) : Prop where
 below : Below w.heap.size w wr
 e : Blk wr w.heap.size 29 (ndC d mv bv kv)
 z : Blk wr (w.heap.size + 1) 29 zeroC
 o : Blk wr (w.heap.size + 2) 29 (ndC d mv bv kvo)
 len : ss.length = ts.length
 row : wr.ownsRow (w.heap.size + 3) 29 11 kvo ts.length ((ts.zip ss).flatMap ndL)
 kid : ∀ (i : Nat) (t : Tree) (c : Sl), ts[i]? = some t → ss[i]? = some c → TreeAt wr (fun b e => ((P b e ∧ b < w.heap.size) ∨ w.heap.size + 3 ≤ b) ∧ kvo.ownBlock ≠ some b) t c
theorem CutSt.next {w wr wx : World} {P : Nat → Nat → Prop} {d : Nd} {mv bv kv kvo : Value} {ts : List Tree} {ss : List Sl} (h : CutSt w wr P d mv bv kv ts ss kvo) (f : Below wr.heap.size wr wx) : CutSt w wx P d mv bv kv ts ss kvo :=
 ⟨bthen h.below f (Nat.le_refl _), h.e.below f, h.z.below f, h.o.below f, h.len, own_below h.row f, fun i t c h1 h2 => (h.kid i t c h1 h2).belo f⟩
theorem nds_four {n : Nat} {l : List Tree} (h : ∀ t ∈ l, nds t ≤ 4 ^ n) : ndsL l ≤ l.length * 4 ^ n := by
 induction l with
 | nil => rw [ndsL]; omega
 | cons t ts ih =>
  rw [ndsL, List.length_cons, Nat.add_mul]
  have := h t (by simp)
  have := ih fun x hx => h x (by simp [hx])
  omega
theorem dep_max {n : Nat} {l : List Tree} (h : ∀ t ∈ l, dep t ≤ n) : depL l ≤ n := by
 induction l with
 | nil => rw [depL]; omega
 | cons t ts ih =>
  rw [depL]
  have := h t (by simp)
  have := ih fun x hx => h x (by simp [hx])
  omega
theorem CutSt.blk {w wr : World} {P : Nat → Nat → Prop} {d : Nd} {mv bv kv kvo : Value} {ts : List Tree} {ss : List Sl} (h : CutSt w wr P d mv bv kv ts ss kvo) : ∀ g, kvo.ownBlock = some g → w.heap.size + 3 ≤ g ∧ g < wr.heap.size := by
 intro g hg
 rcases h.row.2 with ⟨rfl, _⟩ | ⟨g', cap, cur, rfl, hb, h3, _⟩
 ·simp [Value.ownBlock] at hg
 ·simp [Value.ownBlock] at hg
  subst hg
  exact ⟨hb, (Array.getElem?_eq_some_iff.1 h3).1⟩
theorem CutSt.step {w wr w1 w8 : World} {P : Nat → Nat → Prop} {d : Nd} {mv bv kv kvo : Value} {ts : List Tree} {ss : List Sl} {t2 : Tree} {s2 : Sl} {g8 cap8 : Nat} {o : Obj} (h : CutSt w wr P d mv bv kv ts ss kvo) (hb1 : Below wr.heap.size wr w1)
  (ht2 : TreeAt w1 (fun b z => ((P b z ∧ b < w.heap.size) ∧ b < wr.heap.size) ∨ wr.heap.size ≤ b) t2 s2)
  (own8 : w8.ownsRow (w.heap.size + 3) 29 11 (.slice (some ⟨g8, 0, none⟩) (ts.length + 1) cap8) (ts.length + 1) ((ts.zip ss).flatMap ndL ++ ndL (t2, s2)))
  (hgr : (w1.alloc o).grownBy w8 kvo.ownBlock) (hat : kvo.ownBlock = some g8 ∨ g8 = w1.heap.size + 1) :
  CutSt w (w8.setCell ⟨w.heap.size + 2, 10, none⟩ (.slice (some ⟨g8, 0, none⟩) (ts.length + 1) cap8)) P d mv bv kv (ts ++ [t2]) (ss ++ [s2]) (.slice (some ⟨g8, 0, none⟩) (ts.length + 1) cap8) := by
 have hz := h.o.lt
 have hs1 := hb1.size
 have hs8 := hgr.size
 simp at hs8
 have hbk := h.blk
 have same : ∀ b, b < w1.heap.size → kvo.ownBlock ≠ some b → w8.heap[b]? = w1.heap[b]? := fun b hb hn => by
  rw [hgr.block b (by simp; omega) (fun e => hn e.symm)]
  exact (bel1 w1 o).block b hb
 have low : ∀ b, b < w.heap.size + 3 → kvo.ownBlock ≠ some b := fun b hb he => by have := hbk b he; omega
 have B8 : Below (w.heap.size + 3) w1 w8 := ⟨hgr.os, hgr.tape, hgr.output, by omega, fun k hk => same k (by omega) (low k hk)⟩
 have B9 : Below (w.heap.size + 2) w1 (w8.setCell ⟨w.heap.size + 2, 10, none⟩ (.slice (some ⟨g8, 0, none⟩) (ts.length + 1) cap8)) := (B8.mono (show w.heap.size + 2 ≤ w.heap.size + 3 by omega)).setCell (p := ⟨w.heap.size + 2, 10, none⟩) (Nat.le_refl _) _
 have N := h.next hb1
 have hg8 : w.heap.size + 3 ≤ g8 := by
  rcases hat with hat | hat
  ·exact (hbk _ hat).1
  ·omega
 have hsz : (w8.setCell ⟨w.heap.size + 2, 10, none⟩ (.slice (some ⟨g8, 0, none⟩) (ts.length + 1) cap8)).heap.size = w8.heap.size := by simp [World.setCell]
 refine ⟨N.below.trans (B9.mono (by omega)), (B9.block _ (by omega)).trans N.e, (B9.block _ (by omega)).trans N.z, ?_, by simp [h.len], ?_, ?_⟩
 ·have h8 : Blk w8 (w.heap.size + 2) 29 (ndC d mv bv kvo) := (B8.block _ (by omega)).trans N.o
  simpa using h8.set 10 (.slice (some ⟨g8, 0, none⟩) (ts.length + 1) cap8)
 ·have := own_only own8 (Only.setCell (g := w.heap.size + 2) 10 (.slice (some ⟨g8, 0, none⟩) (ts.length + 1) cap8)) (by omega)
  rw [List.zip_append h.len.symm, List.flatMap_append, List.length_append]
  simpa using this
 ·have KEEP : ∀ {Q : Nat → Nat → Prop} {t : Tree} {c : Sl}, TreeAt w1 Q t c → (∀ b e, b < w1.heap.size → Q b e → kvo.ownBlock ≠ some b ∧ b ≠ w.heap.size + 2) → TreeAt (w8.setCell ⟨w.heap.size + 2, 10, none⟩ (.slice (some ⟨g8, 0, none⟩) (ts.length + 1) cap8)) Q t c := by
   intro Q t c ht hQ
   refine ht.keep ⟨by omega, fun b e o hp hb ho => World.cell?_of_block (a := ⟨b, o, none⟩) ?_⟩
   obtain ⟨q1, q2⟩ := hQ b e hb hp
   exact ((Only.setCell (g := w.heap.size + 2) 10 _).block b (by omega) q2).trans (same b hb q1)
  intro i t c h1 h2
  by_cases hi : i < ts.length
  ·rw [List.getElem?_append_left hi] at h1
   rw [List.getElem?_append_left (by rw [h.len]; exact hi)] at h2
   have hk := (h.kid i t c h1 h2).mono (Q := fun b e => (((P b e ∧ b < w.heap.size) ∨ w.heap.size + 3 ≤ b) ∧ kvo.ownBlock ≠ some b) ∧ b < wr.heap.size) fun b e hb hp => ⟨hp, hb⟩
   refine (KEEP (hk.belo hb1) fun b e hb hp => ⟨hp.1.2, by rcases hp.1.1 with q | q <;> omega⟩).mono fun b e hb hp => ⟨hp.1.1, ?_⟩
   intro hc
   simp [Value.ownBlock] at hc
   subst hc
   rcases hat with hat | hat
   ·exact hp.1.2 hat
   ·have := hp.2; omega
  ·rw [List.getElem?_append_right (by omega)] at h1
   rw [List.getElem?_append_right (by rw [h.len]; omega)] at h2
   rw [h.len] at h2
   match hj : i - ts.length, h1, h2 with
   | j + 1, h1, h2 => simp at h1
   | 0, h1, h2 =>
    simp at h1 h2
    subst h1 h2
    have hk := ht2.mono (Q := fun b z => (((P b z ∧ b < w.heap.size) ∧ b < wr.heap.size) ∨ wr.heap.size ≤ b) ∧ b < w1.heap.size) fun b e hb hp => ⟨hp, hb⟩
    refine (KEEP hk fun b e hb hp => ⟨fun he => ?_, by rcases hp.1 with q | q <;> omega⟩).mono fun b e hb hp => ⟨?_, ?_⟩
    ·have := hbk b he
     rcases hp.1 with q | q <;> omega
    ·rcases hp.1 with q | q
     ·exact .inl q.1
     ·exact .inr (by omega)
    ·intro hc
     simp [Value.ownBlock] at hc
     subst hc
     rcases hat with hat | hat
     ·have := hbk _ hat
      rcases hp.1 with q | q <;> omega
     ·have := hp.2; omega
theorem cut_tree {w wr : World} {P : Nat → Nat → Prop} {d : Nd} {ks ts : List Tree} {ss : List Sl} {mv bv kv kvo : Value} {u0 u1 u2 u3 u4 u5 u6 u7 u8 u9 u10 : Value} (hT : TreeAt w P (.node d ks) (mv, bv, kv)) (h : CutSt w wr P d mv bv kv ts ss kvo) :
  TreeAt (put11 wr (w.heap.size + 1) u0 u1 u2 u3 u4 u5 u6 u7 u8 u9 u10) (fun b z => (P b z ∧ b < w.heap.size) ∨ w.heap.size ≤ b) (.node d ts) (mv, bv, kvo) := by
 have hn := ((hT.mono (Q := fun b z => P b z ∧ b < w.heap.size) fun b e hb hp => ⟨hp, hb⟩).keep (Agree.of_below (h.below.trans (put11_below (W := wr) (o := w.heap.size + 1) (by omega) u0 u1 u2 u3 u4 u5 u6 u7 u8 u9 u10)))).nod
 refine Nod.tree ⟨hn.ok, hn.ms.mono fun _ _ _ hp => .inl hp, hn.bys.mono fun _ _ _ hp => .inl hp, ss, h.len, ?_, fun i t c h1 h2 => ?_⟩
 ·exact (SeqP.of_own (P := fun b _ => w.heap.size + 3 ≤ b) h.row fun b c hb _ => hb).keep (Agree.of_only (put11_only ..) fun b e hp => by omega) |>.mono fun b e _ hp => .inr (by omega)
 ·refine ((h.kid i t c h1 h2).keep (Agree.of_only (put11_only ..) fun b e hp => by rcases hp.1 with q | q <;> omega)).mono fun b e _ hp => ?_
  rcases hp.1 with q | q
  ·exact .inl q
  ·exact .inr (by omega)
def RetCut (P : Nat → Nat → Prop) (m : Nat) (w : World) (e : Ending) (w' : World) : Prop := ∃ (t' : Tree) (s' : Sl), e = .returned (.agg (ndC t'.d s'.1 s'.2.1 s'.2.2)) ∧ TreeAt w' (fun b z => (P b z ∧ b < w.heap.size) ∨ w.heap.size ≤ b) t' s' ∧ dep t' ≤ m + 1 ∧ nds t' ≤ 4 ^ (m + 1) ∧ Below w.heap.size w w'
def CutOk (t : Tree) : Prop := ∀ (P : Nat → Nat → Prop) (w : World) (s : Sl) (m : Nat) (dp : Int), TreeAt w P t s → -1000 ≤ dp → dp ≤ 1000 → dp ≤ m + 1 →
  Calls Tryd.prog 11 #[.agg (ndC t.d s.1 s.2.1 s.2.2), .int .i64 dp] w (RetCut P m w)
set_option maxHeartbeats 8000000 in
set_option maxRecDepth 100000 in
theorem cut_any : ∀ t, CutOk t := by
 refine Tree.ind ?_
 intro d ks ih P w ⟨mv, bv, kv⟩ m dp hT hd1 hd2 hd3
 have IH := Box.mk ih
 obtain ⟨A1, n1, hmv, l1⟩ := hT.nod.ms.form
 obtain ⟨A2, n2, hbv, l2⟩ := hT.nod.bys.form
 obtain ⟨A3, n3, hkv, l3⟩ := hT.nod.kform
 subst hmv hbv hkv
 have HT := Box.mk hT
 have HOK := Box.mk hT.nod.ok
 clear hT ih
 simp only [Tree.d]
 go_enter Tryd.func11, Tryd.ntmps11
 go_upto_region 3 with (fail)
 have HC0 : Box (CutSt w (((w.alloc (.cells (ndC d (.slice A1 d.ms.length n1) (.slice A2 d.bys.length n2) (.slice A3 ks.length n3)) 29)).alloc (.cells zeroC 29)).alloc (.cells (ndC d (.slice A1 d.ms.length n1) (.slice A2 d.bys.length n2) nilV) 29)) P d (.slice A1 d.ms.length n1) (.slice A2 d.bys.length n2) (.slice A3 ks.length n3) [] [] nilV) := ⟨⟨bel3 _ _ _ _, ((Blk.new _ _ _).alloc _).alloc _, (Blk.newAt _ _ (by simp)).alloc _, Blk.newAt _ _ (by simp), rfl, World.ownsRow_nil _ _ _ _, fun i t c h1 h2 => by simp at h1⟩⟩
 show Code.wp _ _ _ _ (((w.alloc (.cells (ndC d (.slice A1 d.ms.length n1) (.slice A2 d.bys.length n2) (.slice A3 ks.length n3)) 29)).alloc (.cells zeroC 29)).alloc (.cells (ndC d (.slice A1 d.ms.length n1) (.slice A2 d.bys.length n2) nilV) 29))
 generalize ((w.alloc (.cells (ndC d (.slice A1 d.ms.length n1) (.slice A2 d.bys.length n2) (.slice A3 ks.length n3)) 29)).alloc (.cells zeroC 29)).alloc (.cells (ndC d (.slice A1 d.ms.length n1) (.slice A2 d.bys.length n2) nilV) 29) = W0 at HC0 ⊢
 have HTP : Box (TreeAt w (fun b e => P b e ∧ b < w.heap.size) (.node d ks) ((.slice A1 d.ms.length n1), (.slice A2 d.bys.length n2), (.slice A3 ks.length n3))) := ⟨HT.out.mono fun b e hb hp => ⟨hp, hb⟩⟩
 have hwd : IntKind.i64.wrap (dp - 1) = dp - 1 := W64_in (by omega) (by omega)
 go_wp2_with fail
 go_loopw [6] (fun v wr => ∃ (k : Nat) (ts : List Tree) (ss : List Sl) (A8 : Option Addr) (c8 : Nat), k ≤ ks.length ∧ k ≤ 3 ∧ v = .int .i64 (k : Nat) ∧ Box (ts.length = k ∧ CutSt w wr P d (.slice A1 d.ms.length n1) (.slice A2 d.bys.length n2) (.slice A3 ks.length n3) ts ss (.slice A8 k c8)) ∧ Box (∀ t ∈ ts, dep t ≤ m ∧ nds t ≤ 4 ^ m)) (fun v _ => ks.length - (intOf v).toNat)
 case atStart => exact ⟨0, [], [], none, 0, by omega, by omega, rfl, ⟨rfl, HC0.out⟩, ⟨fun t h => by simp at h⟩⟩
 case round =>
  clear HC0
  obtain ⟨k, ts, ss, A8, c8, hk, hk3, rfl, HC1, HTS1⟩ := hrel
  have HC := Box.mk HC1.out.2
  have HTS : Box ((∀ t ∈ ts, dep t ≤ m ∧ nds t ≤ 4 ^ m) ∧ ts.length ≤ 3) := ⟨HTS1.out, by have := HC1.out.1; omega⟩
  have c10 := (blk11 HC.out.e).2.2.2.2.2.2.2.2.2.2
  simp only [Nat.zero_add] at c10
  by_cases hlt : k < ks.length
  ·have hlt2 : (k : Int) < (ks.length : Int) := by omega
   by_cases hk4 : k < 3
   ·have hk5 : (k : Int) < 3 := by omega
    by_cases hdp : 1 < dp
    ·obtain ⟨x, hx⟩ : ∃ x, ks[k]? = some x := ⟨ks[k], List.getElem?_eq_getElem _⟩
     obtain ⟨e, es⟩ := x
     have HTW := HTP.out.keep (Agree.of_below HC.out.below)
     obtain ⟨b, off, mv', bv', kv', hA3, hb, ⟨zp, hpb⟩, ⟨k0, k1, k2, k3, k4, k5, k6, k7, k8, k9, k10⟩, hT'⟩ := HTW.nod.kid k e es hx
     subst hA3
     obtain ⟨B1, m1, rfl, -⟩ := hT'.nod.ms.form
     obtain ⟨B2, m2, rfl, -⟩ := hT'.nod.bys.form
     obtain ⟨B3, m3, rfl, -⟩ := hT'.nod.kform
     have hbl : b < w.heap.size := hpb.2
     have HT' := Box.mk hT'
     have HX := Box.mk hx
     have o10 := (blk11 HC.out.o).2.2.2.2.2.2.2.2.2.2
     simp only [Nat.zero_add] at o10
     have hol := HC.out.o.lt
     have hel := HC.out.e.lt
     obtain ⟨j0, hj, hy0, hy1, hy2⟩ := info_parts exprInfo
     have HJ := Box.mk (And.intro hj (And.intro hy0 (And.intro hy1 hy2)))
     have HOWN : Box (∀ w1, Below wr.heap.size wr w1 → ∀ o, (w1.alloc o).ownsRow (w.heap.size + 3) 29 11 (.slice A8 k c8) k ((ts.zip ss).flatMap ndL)) := ⟨fun w1 hb1 o => by
      have hk' := HC1.out.1
      have hC := HC1.out.2
      subst hk'
      exact own_below (own_below hC.row hb1) (bel1 w1 o)⟩
     clear hT' hx hj hy0 hy1 hy2 HTW hpb
     go_wp2_with fail
     refine wp_region_T (S := fun w' => w'.cell? ⟨w.heap.size + 2, 10, none⟩ = some (.slice A8 k c8) ∧ w'.cell? ⟨w.heap.size, 10, none⟩ = some (.slice (some ⟨b, off, none⟩) ks.length n3) ∧ w'.cell? ⟨b, off + k * 11, none⟩ = some (.int .i64 e.kind) ∧ w'.cell? ⟨b, off + k * 11 + 1, none⟩ = some (.int .i64 e.fn) ∧ w'.cell? ⟨b, off + k * 11 + 2, none⟩ = some (.int .i64 e.win) ∧ w'.cell? ⟨b, off + k * 11 + 3, none⟩ = some (.int .i64 e.off) ∧ w'.cell? ⟨b, off + k * 11 + 4, none⟩ = some (.int .i64 e.k) ∧ w'.cell? ⟨b, off + k * 11 + 5, none⟩ = some (.int .i64 e.num) ∧ w'.cell? ⟨b, off + k * 11 + 6, none⟩ = some (.int .i64 e.den) ∧ w'.cell? ⟨b, off + k * 11 + 7, none⟩ = some (.string e.name) ∧ w'.cell? ⟨b, off + k * 11 + 8, none⟩ = some (.slice B1 e.ms.length m1) ∧ w'.cell? ⟨b, off + k * 11 + 9, none⟩ = some (.slice B2 e.bys.length m2) ∧ w'.cell? ⟨b, off + k * 11 + 10, none⟩ = some (.slice B3 es.length m3)) 13 (by kernel_rfl) (by exact ⟨cell_drew o10, cell_drew c10, cell_drew k0, cell_drew k1, cell_drew k2, cell_drew k3, cell_drew k4, cell_drew k5, cell_drew k6, cell_drew k7, cell_drew k8, cell_drew k9, cell_drew k10⟩) (fun hHeld => ?_)
     refine wpAnyT_take (i := 0) (v := ?_) rfl (by kernel_rfl) (by kernel_rfl) (by kernel_rfl) (fun _ _ _ h => h) (by kernel_rfl) (by decide) (Or.inl ⟨by rfl, ?_⟩) (by assumption) ?_
     rotate_left
     ·(intro wq hSw; (try dsimp only at hSw); (try obtain ⟨hS1, hS2, hS3, hS4, hS5, hS6, hS7, hS8, hS9, hS10, hS11, hS12, hS13⟩ := hSw); go_simp)
      all_goals with_reducible rfl
     (try simp only [List.getElem_toArray, List.getElem_cons_zero, List.getElem_cons_succ, Act.put, List.setIfInBounds_toArray, List.set_cons_zero, List.set_cons_succ])
     refine wpAnyT_take (i := 1) (v := ?_) rfl (by kernel_rfl) (by kernel_rfl) (by kernel_rfl) (fun _ _ _ h => h) (by kernel_rfl) (by decide) (Or.inl ⟨by rfl, ?_⟩) (by assumption) ?_
     rotate_left
     ·(intro wq hSw; (try dsimp only at hSw); (try obtain ⟨hS1, hS2, hS3, hS4, hS5, hS6, hS7, hS8, hS9, hS10, hS11, hS12, hS13⟩ := hSw); go_simp)
      all_goals with_reducible rfl
     (try simp only [List.getElem_toArray, List.getElem_cons_zero, List.getElem_cons_succ, Act.put, List.setIfInBounds_toArray, List.set_cons_zero, List.set_cons_succ])
     refine wpAnyT_take (i := 2) (v := ?_) rfl (by kernel_rfl) (by kernel_rfl) (by kernel_rfl) (fun _ _ _ h => h) (by kernel_rfl) (by decide) (Or.inl ⟨by rfl, ?_⟩) (by assumption) ?_
     rotate_left
     ·(intro wq hSw; (try dsimp only at hSw); (try obtain ⟨hS1, hS2, hS3, hS4, hS5, hS6, hS7, hS8, hS9, hS10, hS11, hS12, hS13⟩ := hSw); go_simp)
      all_goals with_reducible rfl
     (try simp only [List.getElem_toArray, List.getElem_cons_zero, List.getElem_cons_succ, Act.put, List.setIfInBounds_toArray, List.set_cons_zero, List.set_cons_succ])
     refine wpAnyT_take (i := 3) (v := ?_) rfl (by kernel_rfl) (by kernel_rfl) (by kernel_rfl) (fun _ _ _ h => h) (by kernel_rfl) (by decide) (Or.inl ⟨by rfl, ?_⟩) (by assumption) ?_
     rotate_left
     ·(intro wq hSw; (try dsimp only at hSw); (try obtain ⟨hS1, hS2, hS3, hS4, hS5, hS6, hS7, hS8, hS9, hS10, hS11, hS12, hS13⟩ := hSw); go_simp)
      all_goals with_reducible rfl
     (try simp only [List.getElem_toArray, List.getElem_cons_zero, List.getElem_cons_succ, Act.put, List.setIfInBounds_toArray, List.set_cons_zero, List.set_cons_succ])
     refine wpAnyT_take (i := 4) (v := ?_) rfl (by kernel_rfl) (by kernel_rfl) (by kernel_rfl) (fun _ _ _ h => h) (by kernel_rfl) (by decide) (Or.inl ⟨by rfl, ?_⟩) (by assumption) ?_
     rotate_left
     ·(intro wq hSw; (try dsimp only at hSw); (try obtain ⟨hS1, hS2, hS3, hS4, hS5, hS6, hS7, hS8, hS9, hS10, hS11, hS12, hS13⟩ := hSw); go_simp)
      all_goals with_reducible rfl
     (try simp only [List.getElem_toArray, List.getElem_cons_zero, List.getElem_cons_succ, Act.put, List.setIfInBounds_toArray, List.set_cons_zero, List.set_cons_succ])
     refine wpAnyT_take (i := 5) (v := ?_) rfl (by kernel_rfl) (by kernel_rfl) (by kernel_rfl) (fun _ _ _ h => h) (by kernel_rfl) (by decide) (Or.inl ⟨by rfl, ?_⟩) (by assumption) ?_
     rotate_left
     ·(intro wq hSw; (try dsimp only at hSw); (try obtain ⟨hS1, hS2, hS3, hS4, hS5, hS6, hS7, hS8, hS9, hS10, hS11, hS12, hS13⟩ := hSw); go_simp)
      all_goals with_reducible rfl
     (try simp only [List.getElem_toArray, List.getElem_cons_zero, List.getElem_cons_succ, Act.put, List.setIfInBounds_toArray, List.set_cons_zero, List.set_cons_succ])
     refine wpAnyT_take (i := 6) (v := ?_) rfl (by kernel_rfl) (by kernel_rfl) (by kernel_rfl) (fun _ _ _ h => h) (by kernel_rfl) (by decide) (Or.inl ⟨by rfl, ?_⟩) (by assumption) ?_
     rotate_left
     ·(intro wq hSw; (try dsimp only at hSw); (try obtain ⟨hS1, hS2, hS3, hS4, hS5, hS6, hS7, hS8, hS9, hS10, hS11, hS12, hS13⟩ := hSw); go_simp)
      all_goals with_reducible rfl
     (try simp only [List.getElem_toArray, List.getElem_cons_zero, List.getElem_cons_succ, Act.put, List.setIfInBounds_toArray, List.set_cons_zero, List.set_cons_succ])
     refine wpAnyT_take (i := 7) (v := ?_) rfl (by kernel_rfl) (by kernel_rfl) (by kernel_rfl) (fun _ _ _ h => h) (by kernel_rfl) (by decide) (Or.inl ⟨by rfl, ?_⟩) (by assumption) ?_
     rotate_left
     ·(intro wq hSw; (try dsimp only at hSw); (try obtain ⟨hS1, hS2, hS3, hS4, hS5, hS6, hS7, hS8, hS9, hS10, hS11, hS12, hS13⟩ := hSw); go_simp)
      all_goals with_reducible rfl
     (try simp only [List.getElem_toArray, List.getElem_cons_zero, List.getElem_cons_succ, Act.put, List.setIfInBounds_toArray, List.set_cons_zero, List.set_cons_succ])
     refine wpAnyT_take (i := 8) (v := ?_) rfl (by kernel_rfl) (by kernel_rfl) (by kernel_rfl) (fun _ _ _ h => h) (by kernel_rfl) (by decide) (Or.inl ⟨by rfl, ?_⟩) (by assumption) ?_
     rotate_left
     ·(intro wq hSw; (try dsimp only at hSw); (try obtain ⟨hS1, hS2, hS3, hS4, hS5, hS6, hS7, hS8, hS9, hS10, hS11, hS12, hS13⟩ := hSw); go_simp)
      all_goals with_reducible rfl
     (try simp only [List.getElem_toArray, List.getElem_cons_zero, List.getElem_cons_succ, Act.put, List.setIfInBounds_toArray, List.set_cons_zero, List.set_cons_succ])
     refine wpAnyT_one 9 (by kernel_rfl) rfl (fun K' hK' => ?_)
     go_simp
     refine (IH.out (.node e es) (List.mem_of_getElem? HX.out) (fun b z => P b z ∧ b < w.heap.size) wr.drew (.slice B1 e.ms.length m1, .slice B2 e.bys.length m2, .slice B3 es.length m3) (m - 1) (dp - 1) (HT'.out.belo (below_drewN wr 1)) (by omega) (by omega) (by omega)).mono ?_
     rintro e1 w1 ⟨t2, s2, rfl, ht2, hd2, hn2, hb1⟩
     obtain ⟨e2, es2⟩ := t2
     obtain ⟨r1, r2, r3⟩ := s2
     obtain ⟨C1, p1, rfl, -⟩ := ht2.nod.ms.form
     obtain ⟨C2, p2, rfl, -⟩ := ht2.nod.bys.form
     obtain ⟨C3, p3, rfl, -⟩ := ht2.nod.kform
     simp only [Tree.d]
     have HB1 : Box (Below wr.heap.size wr w1) := ⟨bthen (below_drewN wr 1) hb1 (Nat.le_refl _)⟩
     have HT2 : Box (TreeAt w1 (fun b z => ((P b z ∧ b < w.heap.size) ∧ b < wr.heap.size) ∨ wr.heap.size ≤ b) (.node e2 es2) (.slice C1 e2.ms.length p1, .slice C2 e2.bys.length p2, .slice C3 es2.length p3) ∧ dep (.node e2 es2) ≤ m ∧ nds (.node e2 es2) ≤ 4 ^ m) := ⟨ht2, by omega, by rw [show m = m - 1 + 1 by omega]; exact hn2⟩
     have q0 := bat HB1.out hol o10
     have q1 := bat HB1.out hel c10
     have q2 := bat HB1.out hb k0
     have q3 := bat HB1.out hb k1
     have q4 := bat HB1.out hb k2
     have q5 := bat HB1.out hb k3
     have q6 := bat HB1.out hb k4
     have q7 := bat HB1.out hb k5
     have q8 := bat HB1.out hb k6
     have q9 := bat HB1.out hb k7
     have q10 := bat HB1.out hb k8
     have q11 := bat HB1.out hb k9
     have q12 := bat HB1.out hb k10
     clear ht2 hd2 hn2 hb1
     go_wp2_with fail
     go_wp2_with fail
     refine hK'.out _ _ (fun _ => ⟨q0, q1, q2, q3, q4, q5, q6, q7, q8, q9, q10, q11, q12⟩) (fun hHq => ?_)
     clear hHeld
     have hHeld := hHq (by decide)
     clear hHq hK' K'
     (try simp only [List.getElem_toArray, List.getElem_cons_zero, List.getElem_cons_succ, Act.put, List.setIfInBounds_toArray, List.set_cons_zero, List.set_cons_succ])
     refine wpAnyT_one 10 (by kernel_rfl) rfl (fun K' hK' => ?_)
     (try rw [if_pos (by rfl)])
     go_simp
     refine hK'.out _ _ (fun _ => ⟨cell_alloc' _ q0, cell_alloc' _ q1, cell_alloc' _ q2, cell_alloc' _ q3, cell_alloc' _ q4, cell_alloc' _ q5, cell_alloc' _ q6, cell_alloc' _ q7, cell_alloc' _ q8, cell_alloc' _ q9, cell_alloc' _ q10, cell_alloc' _ q11, cell_alloc' _ q12⟩) (fun hHq => ?_)
     clear hHeld
     have hHeld := hHq (by decide)
     clear hHq hK' K'
     (try simp only [List.getElem_toArray, List.getElem_cons_zero, List.getElem_cons_succ, Act.put, List.setIfInBounds_toArray, List.set_cons_zero, List.set_cons_succ])
     refine wpAnyT_one 11 (by kernel_rfl) rfl (fun K' hK' => ?_)
     (try rw [if_pos (by rfl)])
     refine wp_append_lies _ _ _ 27 rfl (w.heap.size + 3) 29 j0 _ 11 144 Tryd.underlying27 HJ.out.1 HJ.out.2.1 HJ.out.2.2.1 HJ.out.2.2.2 rfl (by decide) (.slice A8 k c8) k ((ts.zip ss).flatMap ndL) rfl (by exact HOWN.out w1 HB1.out _) ⟨w1.heap.size, 0, none⟩ 1 1 (ndL (.node e2 es2, .slice C1 e2.ms.length p1, .slice C2 e2.bys.length p2, .slice C3 es2.length p3)) rfl rfl (cells11 _ _ (.node e2 es2, .slice C1 e2.ms.length p1, .slice C2 e2.bys.length p2, .slice C3 es2.length p3)) (nd_one HT2.out.1) (by decide) (by unfold maxLen; omega) (by omega) (by have := HB1.out.size; simp; omega) (w1.heap.size + 1) (by simp) ?_
     intro g8 cap8 w8 hown8 hgr8 hat8 hlt8
     have HST : Box (CutSt w (w8.setCell ⟨w.heap.size + 2, 10, none⟩ (.slice (some ⟨g8, 0, none⟩) (k + 1) cap8)) P d (.slice A1 d.ms.length n1) (.slice A2 d.bys.length n2) (.slice (some ⟨b, off, none⟩) ks.length n3) (ts ++ [.node e2 es2]) (ss ++ [(.slice C1 e2.ms.length p1, .slice C2 e2.bys.length p2, .slice C3 es2.length p3)]) (.slice (some ⟨g8, 0, none⟩) (k + 1) cap8)) := ⟨by
      have hk' := HC1.out.1
      have hC := HC1.out.2
      subst hk'
      exact hC.step HB1.out HT2.out.1 hown8 hgr8 hat8⟩
     have hfar : ∀ b, b < w.heap.size + 3 → w8.heap[b]? = w1.heap[b]? := fun b hb8 => by
      have h1 := HB1.out.size
      have h2 := hgr8.block b (by simp; omega) (fun he => by
       have := HC1.out.2.blk b he.symm
       omega)
      rw [h2]
      exact (bel1 w1 _).block b (by omega)
     have f0 := (World.cell?_of_block (a := ⟨w.heap.size + 2, 10, none⟩) (hfar (w.heap.size + 2) (by omega))).trans q0
     have f1 := (World.cell?_of_block (a := ⟨w.heap.size, 10, none⟩) (hfar w.heap.size (by omega))).trans q1
     have f2 := (World.cell?_of_block (a := ⟨b, off + k * 11, none⟩) (hfar b (by omega))).trans q2
     have f3 := (World.cell?_of_block (a := ⟨b, off + k * 11 + 1, none⟩) (hfar b (by omega))).trans q3
     have f4 := (World.cell?_of_block (a := ⟨b, off + k * 11 + 2, none⟩) (hfar b (by omega))).trans q4
     have f5 := (World.cell?_of_block (a := ⟨b, off + k * 11 + 3, none⟩) (hfar b (by omega))).trans q5
     have f6 := (World.cell?_of_block (a := ⟨b, off + k * 11 + 4, none⟩) (hfar b (by omega))).trans q6
     have f7 := (World.cell?_of_block (a := ⟨b, off + k * 11 + 5, none⟩) (hfar b (by omega))).trans q7
     have f8 := (World.cell?_of_block (a := ⟨b, off + k * 11 + 6, none⟩) (hfar b (by omega))).trans q8
     have f9 := (World.cell?_of_block (a := ⟨b, off + k * 11 + 7, none⟩) (hfar b (by omega))).trans q9
     have f10 := (World.cell?_of_block (a := ⟨b, off + k * 11 + 8, none⟩) (hfar b (by omega))).trans q10
     have f11 := (World.cell?_of_block (a := ⟨b, off + k * 11 + 9, none⟩) (hfar b (by omega))).trans q11
     have f12 := (World.cell?_of_block (a := ⟨b, off + k * 11 + 10, none⟩) (hfar b (by omega))).trans q12
     have ef8 : w8.frozen? ⟨w.heap.size + 2, 10, none⟩ = false := (World.frozen?_of_block (a := ⟨w.heap.size + 2, 10, none⟩) ((hfar (w.heap.size + 2) (by omega)).trans (HB1.out.block _ hol))).trans (HC.out.o.frozen 10)
     clear hown8 hgr8 hat8 hfar
     refine hK'.out _ _ (fun _ => ⟨f0, f1, f2, f3, f4, f5, f6, f7, f8, f9, f10, f11, f12⟩) (fun hHq => ?_)
     clear hHeld
     have hHeld := hHq (by decide)
     clear hHq hK' K'
     (try simp only [List.getElem_toArray, List.getElem_cons_zero, List.getElem_cons_succ, Act.put, List.setIfInBounds_toArray, List.set_cons_zero, List.set_cons_succ])
     refine wpAnyT_take (i := 12) (v := ?_) rfl (by kernel_rfl) (by kernel_rfl) (by kernel_rfl) (fun _ _ _ h => h) (by kernel_rfl) (by decide) (Or.inl ⟨by rfl, ?_⟩) (by assumption) ?_
     rotate_left
     ·(intro wq hSw; (try dsimp only at hSw); (try obtain ⟨hS1, hS2, hS3, hS4, hS5, hS6, hS7, hS8, hS9, hS10, hS11, hS12, hS13⟩ := hSw); go_simp)
      all_goals with_reducible rfl
     (try simp only [List.getElem_toArray, List.getElem_cons_zero, List.getElem_cons_succ, Act.put, List.setIfInBounds_toArray, List.set_cons_zero, List.set_cons_succ])
     refine wpAnyT_one 13 (by kernel_rfl) rfl (fun K' hK' => ?_)
     (try rw [if_pos (by rfl)])
     go_simp
     refine hK'.out _ _ (fun h => absurd rfl h) (fun _ => ?_)
     clear hHeld hK' K'
     (try simp only [List.getElem_toArray, List.getElem_cons_zero, List.getElem_cons_succ, Act.put, List.setIfInBounds_toArray, List.set_cons_zero, List.set_cons_succ])
     refine wpAnyT_done (by kernel_rfl) ?_ _
     clear f0 f1 f2 f3 f4 f5 f6 f7 f8 f9 f10 f11 f12 q0 q1 q2 q3 q4 q5 q6 q7 q8 q9 q10 q11 q12 k0 k1 k2 k3 k4 k5 k6 k7 k8 k9 k10 o10 c10 ef8
     go_wp2_with fail
     go_roundw
     case rel => exact ⟨k + 1, ts ++ [.node e2 es2], ss ++ [(.slice C1 e2.ms.length p1, .slice C2 e2.bys.length p2, .slice C3 es2.length p3)], some ⟨g8, 0, none⟩, cap8, by omega, by omega, by go_num, ⟨by simp [HC1.out.1], HST.out⟩, ⟨fun t ht => by
      rcases List.mem_append.1 ht with ht | ht
      ·exact HTS1.out t ht
      ·simp at ht; subst ht; exact HT2.out.2⟩⟩
     case measure => simp [intOf]; omega
    ·have oo := blk11 HC.out.o
     obtain ⟨o0, o1, o2, o3, o4, o5, o6, o7, o8, o9, o10⟩ := oo
     obtain ⟨z0, z1, z2, z3, z4, z5, z6, z7, z8, z9, z10⟩ := blk11 HC.out.z
     simp only [Nat.zero_add] at o1 o2 o3 o4 o5 o6 o7 o8 o9 o10 z1 z2 z3 z4 z5 z6 z7 z8 z9 z10
     have zf := HC.out.z.frozen
     go_wp2_with fail
     have HF : Box (Blk (put11 wr (w.heap.size + 1) (.int .i64 d.kind) (.int .i64 d.fn) (.int .i64 d.win) (.int .i64 d.off) (.int .i64 d.k) (.int .i64 d.num) (.int .i64 d.den) (.string d.name) (.slice A1 d.ms.length n1) (.slice A2 d.bys.length n2) (.slice A8 k c8)) (w.heap.size + 1) 29 (ndC d (.slice A1 d.ms.length n1) (.slice A2 d.bys.length n2) (.slice A8 k c8))) := ⟨put11_blk HC.out.z⟩
     have HA : Box (Below w.heap.size w (put11 wr (w.heap.size + 1) (.int .i64 d.kind) (.int .i64 d.fn) (.int .i64 d.win) (.int .i64 d.off) (.int .i64 d.k) (.int .i64 d.num) (.int .i64 d.den) (.string d.name) (.slice A1 d.ms.length n1) (.slice A2 d.bys.length n2) (.slice A8 k c8)) ∧ TreeAt (put11 wr (w.heap.size + 1) (.int .i64 d.kind) (.int .i64 d.fn) (.int .i64 d.win) (.int .i64 d.off) (.int .i64 d.k) (.int .i64 d.num) (.int .i64 d.den) (.string d.name) (.slice A1 d.ms.length n1) (.slice A2 d.bys.length n2) (.slice A8 k c8)) (fun b z => (P b z ∧ b < w.heap.size) ∨ w.heap.size ≤ b) (.node d ts) ((.slice A1 d.ms.length n1), (.slice A2 d.bys.length n2), (.slice A8 k c8))) := ⟨HC.out.below.trans (put11_below (by omega) ..), cut_tree HT.out HC.out⟩
     show bodyPost _ _ _ _ _ (put11 wr (w.heap.size + 1) (.int .i64 d.kind) (.int .i64 d.fn) (.int .i64 d.win) (.int .i64 d.off) (.int .i64 d.k) (.int .i64 d.num) (.int .i64 d.den) (.string d.name) (.slice A1 d.ms.length n1) (.slice A2 d.bys.length n2) (.slice A8 k c8))
     generalize (put11 wr (w.heap.size + 1) (.int .i64 d.kind) (.int .i64 d.fn) (.int .i64 d.win) (.int .i64 d.off) (.int .i64 d.k) (.int .i64 d.num) (.int .i64 d.den) (.string d.name) (.slice A1 d.ms.length n1) (.slice A2 d.bys.length n2) (.slice A8 k c8)) = WF at HF HA ⊢
     clear z0 z1 z2 z3 z4 z5 z6 z7 z8 z9 z10 zf o0 o1 o2 o3 o4 o5 o6 o7 o8 o9 o10 c10
     obtain ⟨e0, e1, e2, e3, e4, e5, e6, e7, e8, e9, e10⟩ := blk11 HF.out
     simp only [Nat.zero_add] at e1 e2 e3 e4 e5 e6 e7 e8 e9 e10
     have ef := HF.out.frozen
     refine bodyPost_ret (v := .agg (ndC d (.slice A1 d.ms.length n1) (.slice A2 d.bys.length n2) (.slice A8 k c8))) (by simp [results, Tryd.results11, go_sem, e0, e1, e2, e3, e4, e5, e6, e7, e8, e9, e10, ef]) rfl ?_
     refine ⟨.node d ts, ((.slice A1 d.ms.length n1), (.slice A2 d.bys.length n2), (.slice A8 k c8)), rfl, HA.out.2, ?_, ?_, HA.out.1⟩
     ·rw [dep]; have := dep_max (n := m) fun t ht => (HTS.out.1 t ht).1; omega
     ·have h1 := nds_four (n := m) fun t ht => (HTS.out.1 t ht).2
      have h2 : ts.length * 4 ^ m ≤ 3 * 4 ^ m := Nat.mul_le_mul_right _ HTS.out.2
      have h3 : 4 ^ (m + 1) = 4 * 4 ^ m := by rw [Nat.pow_succ]; omega
      have h4 : 1 ≤ 4 ^ m := Nat.pow_pos (by omega)
      rw [nds]; omega
   ·have hk5 : ¬ (k : Int) < 3 := by omega
    have oo := blk11 HC.out.o
    obtain ⟨o0, o1, o2, o3, o4, o5, o6, o7, o8, o9, o10⟩ := oo
    obtain ⟨z0, z1, z2, z3, z4, z5, z6, z7, z8, z9, z10⟩ := blk11 HC.out.z
    simp only [Nat.zero_add] at o1 o2 o3 o4 o5 o6 o7 o8 o9 o10 z1 z2 z3 z4 z5 z6 z7 z8 z9 z10
    have zf := HC.out.z.frozen
    go_wp2_with fail
    have HF : Box (Blk (put11 wr (w.heap.size + 1) (.int .i64 d.kind) (.int .i64 d.fn) (.int .i64 d.win) (.int .i64 d.off) (.int .i64 d.k) (.int .i64 d.num) (.int .i64 d.den) (.string d.name) (.slice A1 d.ms.length n1) (.slice A2 d.bys.length n2) (.slice A8 k c8)) (w.heap.size + 1) 29 (ndC d (.slice A1 d.ms.length n1) (.slice A2 d.bys.length n2) (.slice A8 k c8))) := ⟨put11_blk HC.out.z⟩
    have HA : Box (Below w.heap.size w (put11 wr (w.heap.size + 1) (.int .i64 d.kind) (.int .i64 d.fn) (.int .i64 d.win) (.int .i64 d.off) (.int .i64 d.k) (.int .i64 d.num) (.int .i64 d.den) (.string d.name) (.slice A1 d.ms.length n1) (.slice A2 d.bys.length n2) (.slice A8 k c8)) ∧ TreeAt (put11 wr (w.heap.size + 1) (.int .i64 d.kind) (.int .i64 d.fn) (.int .i64 d.win) (.int .i64 d.off) (.int .i64 d.k) (.int .i64 d.num) (.int .i64 d.den) (.string d.name) (.slice A1 d.ms.length n1) (.slice A2 d.bys.length n2) (.slice A8 k c8)) (fun b z => (P b z ∧ b < w.heap.size) ∨ w.heap.size ≤ b) (.node d ts) ((.slice A1 d.ms.length n1), (.slice A2 d.bys.length n2), (.slice A8 k c8))) := ⟨HC.out.below.trans (put11_below (by omega) ..), cut_tree HT.out HC.out⟩
    show bodyPost _ _ _ _ _ (put11 wr (w.heap.size + 1) (.int .i64 d.kind) (.int .i64 d.fn) (.int .i64 d.win) (.int .i64 d.off) (.int .i64 d.k) (.int .i64 d.num) (.int .i64 d.den) (.string d.name) (.slice A1 d.ms.length n1) (.slice A2 d.bys.length n2) (.slice A8 k c8))
    generalize (put11 wr (w.heap.size + 1) (.int .i64 d.kind) (.int .i64 d.fn) (.int .i64 d.win) (.int .i64 d.off) (.int .i64 d.k) (.int .i64 d.num) (.int .i64 d.den) (.string d.name) (.slice A1 d.ms.length n1) (.slice A2 d.bys.length n2) (.slice A8 k c8)) = WF at HF HA ⊢
    clear z0 z1 z2 z3 z4 z5 z6 z7 z8 z9 z10 zf o0 o1 o2 o3 o4 o5 o6 o7 o8 o9 o10 c10
    obtain ⟨e0, e1, e2, e3, e4, e5, e6, e7, e8, e9, e10⟩ := blk11 HF.out
    simp only [Nat.zero_add] at e1 e2 e3 e4 e5 e6 e7 e8 e9 e10
    have ef := HF.out.frozen
    refine bodyPost_ret (v := .agg (ndC d (.slice A1 d.ms.length n1) (.slice A2 d.bys.length n2) (.slice A8 k c8))) (by simp [results, Tryd.results11, go_sem, e0, e1, e2, e3, e4, e5, e6, e7, e8, e9, e10, ef]) rfl ?_
    refine ⟨.node d ts, ((.slice A1 d.ms.length n1), (.slice A2 d.bys.length n2), (.slice A8 k c8)), rfl, HA.out.2, ?_, ?_, HA.out.1⟩
    ·rw [dep]; have := dep_max (n := m) fun t ht => (HTS.out.1 t ht).1; omega
    ·have h1 := nds_four (n := m) fun t ht => (HTS.out.1 t ht).2
     have h2 : ts.length * 4 ^ m ≤ 3 * 4 ^ m := Nat.mul_le_mul_right _ HTS.out.2
     have h3 : 4 ^ (m + 1) = 4 * 4 ^ m := by rw [Nat.pow_succ]; omega
     have h4 : 1 ≤ 4 ^ m := Nat.pow_pos (by omega)
     rw [nds]; omega
  ·have hlt2 : ¬ (k : Int) < (ks.length : Int) := by omega
   have oo := blk11 HC.out.o
   obtain ⟨o0, o1, o2, o3, o4, o5, o6, o7, o8, o9, o10⟩ := oo
   obtain ⟨z0, z1, z2, z3, z4, z5, z6, z7, z8, z9, z10⟩ := blk11 HC.out.z
   simp only [Nat.zero_add] at o1 o2 o3 o4 o5 o6 o7 o8 o9 o10 z1 z2 z3 z4 z5 z6 z7 z8 z9 z10
   have zf := HC.out.z.frozen
   go_wp2_with fail
   have HF : Box (Blk (put11 wr (w.heap.size + 1) (.int .i64 d.kind) (.int .i64 d.fn) (.int .i64 d.win) (.int .i64 d.off) (.int .i64 d.k) (.int .i64 d.num) (.int .i64 d.den) (.string d.name) (.slice A1 d.ms.length n1) (.slice A2 d.bys.length n2) (.slice A8 k c8)) (w.heap.size + 1) 29 (ndC d (.slice A1 d.ms.length n1) (.slice A2 d.bys.length n2) (.slice A8 k c8))) := ⟨put11_blk HC.out.z⟩
   have HA : Box (Below w.heap.size w (put11 wr (w.heap.size + 1) (.int .i64 d.kind) (.int .i64 d.fn) (.int .i64 d.win) (.int .i64 d.off) (.int .i64 d.k) (.int .i64 d.num) (.int .i64 d.den) (.string d.name) (.slice A1 d.ms.length n1) (.slice A2 d.bys.length n2) (.slice A8 k c8)) ∧ TreeAt (put11 wr (w.heap.size + 1) (.int .i64 d.kind) (.int .i64 d.fn) (.int .i64 d.win) (.int .i64 d.off) (.int .i64 d.k) (.int .i64 d.num) (.int .i64 d.den) (.string d.name) (.slice A1 d.ms.length n1) (.slice A2 d.bys.length n2) (.slice A8 k c8)) (fun b z => (P b z ∧ b < w.heap.size) ∨ w.heap.size ≤ b) (.node d ts) ((.slice A1 d.ms.length n1), (.slice A2 d.bys.length n2), (.slice A8 k c8))) := ⟨HC.out.below.trans (put11_below (by omega) ..), cut_tree HT.out HC.out⟩
   show bodyPost _ _ _ _ _ (put11 wr (w.heap.size + 1) (.int .i64 d.kind) (.int .i64 d.fn) (.int .i64 d.win) (.int .i64 d.off) (.int .i64 d.k) (.int .i64 d.num) (.int .i64 d.den) (.string d.name) (.slice A1 d.ms.length n1) (.slice A2 d.bys.length n2) (.slice A8 k c8))
   generalize (put11 wr (w.heap.size + 1) (.int .i64 d.kind) (.int .i64 d.fn) (.int .i64 d.win) (.int .i64 d.off) (.int .i64 d.k) (.int .i64 d.num) (.int .i64 d.den) (.string d.name) (.slice A1 d.ms.length n1) (.slice A2 d.bys.length n2) (.slice A8 k c8)) = WF at HF HA ⊢
   clear z0 z1 z2 z3 z4 z5 z6 z7 z8 z9 z10 zf o0 o1 o2 o3 o4 o5 o6 o7 o8 o9 o10 c10
   obtain ⟨e0, e1, e2, e3, e4, e5, e6, e7, e8, e9, e10⟩ := blk11 HF.out
   simp only [Nat.zero_add] at e1 e2 e3 e4 e5 e6 e7 e8 e9 e10
   have ef := HF.out.frozen
   refine bodyPost_ret (v := .agg (ndC d (.slice A1 d.ms.length n1) (.slice A2 d.bys.length n2) (.slice A8 k c8))) (by simp [results, Tryd.results11, go_sem, e0, e1, e2, e3, e4, e5, e6, e7, e8, e9, e10, ef]) rfl ?_
   refine ⟨.node d ts, ((.slice A1 d.ms.length n1), (.slice A2 d.bys.length n2), (.slice A8 k c8)), rfl, HA.out.2, ?_, ?_, HA.out.1⟩
   ·rw [dep]; have := dep_max (n := m) fun t ht => (HTS.out.1 t ht).1; omega
   ·have h1 := nds_four (n := m) fun t ht => (HTS.out.1 t ht).2
    have h2 : ts.length * 4 ^ m ≤ 3 * 4 ^ m := Nat.mul_le_mul_right _ HTS.out.2
    have h3 : 4 ^ (m + 1) = 4 * 4 ^ m := by rw [Nat.pow_succ]; omega
    have h4 : 1 ≤ 4 ^ m := Nat.pow_pos (by omega)
    rw [nds]; omega
end
end Go.Proofs.YtipafbppaaflcaaDoor
