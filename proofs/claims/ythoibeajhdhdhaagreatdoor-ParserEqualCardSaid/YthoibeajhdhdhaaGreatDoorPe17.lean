/- Contracts, packed: Qw Qy Jk Ql Ra Qm Rb Rc Sa. -/
import Derived.Test.YthoibeajhdhdhaaGreatDoorPe10
import Derived.Test.YthoibeajhdhdhaaGreatDoorPe13
import Derived.Test.YthoibeajhdhdhaaGreatDoorPe16
import Derived.Deep.DeepCutAuto
set_option linter.unusedVariables false
set_option linter.unusedSimpArgs false
namespace Go.Proofs.YthoibeajhdhdhaaGreatDoor
section
open Go.RowKit FracM
theorem TreeF.form {w : World} {B : Nat} {d : Nd} {ks : List Tree} {mv bv kv : Value} (h : TreeF w B (.node d ks) (mv, bv, kv)) : (∃ A c, mv = .slice A d.ms.length c ∧ True) ∧ (∃ A c, bv = .slice A d.bys.length c ∧ True) ∧ (∃ A c, kv = .slice A ks.length c ∧ True) := by
 obtain ⟨L, h⟩ := h
 obtain ⟨A1, c1, h1, -⟩ := h.tree.nod.ms.form
 obtain ⟨A2, c2, h2, -⟩ := h.tree.nod.bys.form
 obtain ⟨A3, c3, h3, -⟩ := h.tree.nod.kform
 exact ⟨⟨A1, c1, h1, trivial⟩, ⟨A2, c2, h2, trivial⟩, ⟨A3, c3, h3, trivial⟩⟩
end
section
section
open Go.RowKit FracM
def IntsP (w : World) (v : Value) (l : List Int) : Prop := SeqP w (fun b _ => b < w.heap.size) 1 v l.length (l.map (Value.int .i64)) ∧ ∀ x ∈ l, I64 x
def StrsL (w : World) (v : Value) (l : List ByteArray) : Prop := SeqP w (fun b _ => b < w.heap.size) 1 v l.length (l.map Value.string)
end
section
open Go.RowKit FracM
theorem IntsP.belo {w w' : World} {v : Value} {l : List Int} (h : IntsP w v l) (f : Below w.heap.size w w') : IntsP w' v l := ⟨(h.1.mono fun b e hb hp => by have := f.size; omega).keep (Agree.of_below f), h.2⟩
end
end
section
open Go.RowKit FracM
def ns6 : List ByteArray := [⟨#[99, 112, 117]⟩, ⟨#[109, 101, 109]⟩, ⟨#[97]⟩, ⟨#[108, 97, 115, 116]⟩, ⟨#[98, 121]⟩, ⟨#[120, 95, 49]⟩]
theorem ns6_ok : NamesOk ns6 := by unfold NamesOk; decide +kernel
end
section
open Go.RowKit FracM
def sameB : List ByteArray → List ByteArray → Bool
 | [], [] => true
 | x :: xs, y :: ys => (x.toList == y.toList) && sameB xs ys
 | _, _ => false
theorem same_eq (a b : List ByteArray) : sameB a b = decide (a = b) := by
 induction a generalizing b with
 | nil => cases b <;> simp [sameB]
 | cons x xs ih =>
  cases b with
  | nil => simp [sameB]
  | cons y ys =>
   rw [sameB, ih, str_beq, Bool.eq_iff_iff]
   simp
theorem StrsP.len {w : World} {A : Option Addr} {n c : Nat} {l : List ByteArray} (h : StrsP w (.slice A n c) l) : n = l.length ∧ n ≤ 9223372036854775807 := by
 obtain ⟨_, _, _, hv, h1, h2, _⟩ := h
 cases hv
 unfold maxLen at h2
 exact ⟨rfl, by omega⟩
theorem StrsP.at_ {w : World} {A : Option Addr} {n c : Nat} {l : List ByteArray} (h : StrsP w (.slice A n c) l) (k : Nat) (hk : k < l.length) : ∃ x b off, l[k]? = some x ∧ A = some ⟨b, off, none⟩ ∧ b < w.heap.size ∧ w.cell? ⟨b, off + k, none⟩ = some (.string x) := by
 obtain ⟨x, hx⟩ : ∃ x, l[k]? = some x := ⟨l[k], List.getElem?_eq_getElem _⟩
 obtain ⟨b, off, h1, h2, h3⟩ := SeqP.at1 h k (.string x) (by simp [hx])
 exact ⟨x, b, off, hx, h1, h2, h3⟩
theorem drop_at {α : Type} {l : List α} {k : Nat} {x : α} (hx : l[k]? = some x) : l.drop k = x :: l.drop (k + 1) := by
 obtain ⟨h1, h2⟩ := List.getElem?_eq_some_iff.1 hx
 rw [List.drop_eq_getElem_cons h1, h2]
end
section
open Go.RowKit FracM
end
section
open Go.RowKit FracM
end
section
open Go.RowKit FracM
end
section
open Go.RowKit FracM
theorem blk11z {W : World} {g : Nat} {t : TypeId} {d : Nd} {mv bv kv : Value} (h : Blk W g t (ndC d mv bv kv)) : W.cell? ⟨g, 0, none⟩ = some (.int .i64 d.kind) ∧ W.cell? ⟨g, 1, none⟩ = some (.int .i64 d.fn) ∧ W.cell? ⟨g, 2, none⟩ = some (.int .i64 d.win) ∧ W.cell? ⟨g, 3, none⟩ = some (.int .i64 d.off) ∧ W.cell? ⟨g, 4, none⟩ = some (.int .i64 d.k) ∧ W.cell? ⟨g, 5, none⟩ = some (.int .i64 d.num) ∧ W.cell? ⟨g, 6, none⟩ = some (.int .i64 d.den) ∧ W.cell? ⟨g, 7, none⟩ = some (.string d.name) ∧ W.cell? ⟨g, 8, none⟩ = some mv ∧ W.cell? ⟨g, 9, none⟩ = some bv ∧ W.cell? ⟨g, 10, none⟩ = some kv := by
 unfold Blk at h
 refine ⟨?_, ?_, ?_, ?_, ?_, ?_, ?_, ?_, ?_, ?_, ?_⟩ <;> simp [World.cell?, h]
end
section
open Go.RowKit FracM
theorem ndsL_drop (ks : List Tree) (k : Nat) (x : Tree) (hx : ks[k]? = some x) : ndsL (ks.drop k) = nds x + ndsL (ks.drop (k + 1)) := by
 obtain ⟨h1, h2⟩ := List.getElem?_eq_some_iff.1 hx
 rw [List.drop_eq_getElem_cons h1, h2, ndsL]
theorem nds_mem {ks : List Tree} {x : Tree} (hx : x ∈ ks) : nds x ≤ ndsL ks := by
 induction ks with
 | nil => simp at hx
 | cons t ts ih =>
  rw [ndsL]
  rcases List.mem_cons.1 hx with e | e
  ·subst e; omega
  ·have := ih e; omega
set_option maxHeartbeats 2000000 in
set_option maxRecDepth 100000 in
theorem nodes_any : ∀ t, ∀ (P : Nat → Nat → Prop) (w : World) (s : Sl), TreeAt w P t s → nds t ≤ 1000000 → Calls Tryz.prog 38 #[.agg (ndC t.d s.1 s.2.1 s.2.2)] w (RetB (.int .i64 (nds t)) w) := by
 refine Tree.ind ?_
 intro d ks ih P w ⟨mv, bv, kv⟩ hT hn
 have IH := Box.mk ih
 have HN := Lib.hid (N1.start hT)
 obtain ⟨A1, n1, hmv, l1⟩ := hT.nod.ms.form
 obtain ⟨A2, n2, hbv, l2⟩ := hT.nod.bys.form
 obtain ⟨A3, n3, hkv, l3⟩ := hT.nod.kform
 subst hmv hbv hkv
 rw [nds] at hn ⊢
 obtain ⟨N, hN⟩ : ∃ N, N = ndsL ks := ⟨_, rfl⟩
 rw [← hN] at hn ⊢
 have HNN := Box.mk hN
 clear hT ih hN
 simp only [Tree.d]
 go_enter Tryz.func38, Tryz.ntmps38
 go_upto_region 1 with (fail)
 generalize w.alloc (.cells (ndC d _ _ _) 29) = W at HN ⊢
 go_wp2_with fail
 go_loopw [3, 4] (fun n v wr => ∃ k m : Nat, k ≤ ks.length ∧ v = .int .i64 (k : Nat) ∧ n = .int .i64 (m : Nat) ∧ m + ndsL (ks.drop k) = N + 1 ∧ N1 w wr P d ks (.slice A1 d.ms.length n1) (.slice A2 d.bys.length n2) (.slice A3 ks.length n3)) (fun _ v _ => ks.length - (intOf v).toNat)
 case atStart => exact ⟨0, 1, by omega, rfl, rfl, by rw [List.drop_zero, ← HNN.out]; omega, HN.out⟩
 case round =>
  clear HN
  obtain ⟨k, m, hk, rfl, rfl, hm, hN⟩ := hrel
  have HN := Lib.hid hN; clear hN
  have c10 := (blk11z HN.out.blk).2.2.2.2.2.2.2.2.2.2
  by_cases hlt : k < ks.length
  ·obtain ⟨x, hx⟩ : ∃ x, ks[k]? = some x := ⟨ks[k], List.getElem?_eq_getElem _⟩
   obtain ⟨e, es⟩ := x
   obtain ⟨b, off, mv', bv', kv', rfl, hb, hpb, ⟨k0, k1, k2, k3, k4, k5, k6, k7, k8, k9, k10⟩, hT'⟩ := HN.out.nod.kid k e es hx
   obtain ⟨B1, m1, rfl, -⟩ := hT'.nod.ms.form
   obtain ⟨B2, m2, rfl, -⟩ := hT'.nod.bys.form
   obtain ⟨B3, m3, rfl, -⟩ := hT'.nod.kform
   have HT' := Box.mk hT'
   have HX := Box.mk hx
   have hlt2 : (k : Int) < (ks.length : Int) := by omega
   have hstep := ndsL_drop ks k _ hx
   have hle := nds_mem (List.mem_of_getElem? hx)
   rw [← HNN.out] at hle
   have HM := Box.mk (And.intro hm hstep)
   have hq : nds (.node e es) ≤ 1000000 := by omega
   have hm2 : m + nds (.node e es) ≤ 1000001 := by omega
   clear hT' hx hm hstep hle
   go_wp2_with fail
   refine (IH.out (.node e es) (List.mem_of_getElem? HX.out) P _ (.slice B1 e.ms.length m1, .slice B2 e.bys.length m2, .slice B3 es.length m3) HT'.out hq).mono ?_
   rintro e1 w1 ⟨rfl, hb1⟩
   have HN2 := Lib.hid (HN.out.next hb1)
   generalize nds (.node e es) = q at hq hm2 HM ⊢
   clear HN hb1 k0 k1 k2 k3 k4 k5 k6 k7 k8 k9 k10 c10
   go_wp2_with fail
   go_roundw
   case rel => exact ⟨k + 1, m + q, by omega, by go_num, by go_num, by have := HM.out; omega, HN2.out⟩
   case measure => simp [intOf]; omega
  ·have hlt2 : ¬ (k : Int) < (ks.length : Int) := by omega
   rw [List.drop_eq_nil_of_le (by omega), ndsL] at hm
   go_wp2_with fail
   go_ret
   exact ⟨ret_int (by omega), HN.out.below⟩
theorem depL_drop (ks : List Tree) (k : Nat) (x : Tree) (hx : ks[k]? = some x) : depL (ks.drop k) = max (dep x) (depL (ks.drop (k + 1))) := by
 obtain ⟨h1, h2⟩ := List.getElem?_eq_some_iff.1 hx
 rw [List.drop_eq_getElem_cons h1, h2, depL]
theorem dep_mem {ks : List Tree} {x : Tree} (hx : x ∈ ks) : dep x ≤ depL ks := by
 induction ks with
 | nil => simp at hx
 | cons t ts ih =>
  rw [depL]
  rcases List.mem_cons.1 hx with e | e
  ·subst e; omega
  ·have := ih e; omega
set_option maxHeartbeats 2000000 in
set_option maxRecDepth 100000 in
theorem depth_any : ∀ t, ∀ (P : Nat → Nat → Prop) (w : World) (s : Sl), TreeAt w P t s → dep t ≤ 1000000 → Calls Tryz.prog 36 #[.agg (ndC t.d s.1 s.2.1 s.2.2)] w (RetB (.int .i64 (dep t)) w) := by
 refine Tree.ind ?_
 intro d ks ih P w ⟨mv, bv, kv⟩ hT hn
 have IH := Box.mk ih
 have HN := Lib.hid (N1.start hT)
 obtain ⟨A1, n1, hmv, l1⟩ := hT.nod.ms.form
 obtain ⟨A2, n2, hbv, l2⟩ := hT.nod.bys.form
 obtain ⟨A3, n3, hkv, l3⟩ := hT.nod.kform
 subst hmv hbv hkv
 rw [dep] at hn ⊢
 obtain ⟨N, hN⟩ : ∃ N, N = depL ks := ⟨_, rfl⟩
 rw [← hN] at hn ⊢
 have HNN := Box.mk hN
 clear hT ih hN
 simp only [Tree.d]
 go_enter Tryz.func36, Tryz.ntmps36
 go_upto_region 1 with (fail)
 generalize w.alloc (.cells (ndC d _ _ _) 29) = W at HN ⊢
 go_wp2_with fail
 go_loopw [3, 4] (fun n v wr => ∃ k m : Nat, k ≤ ks.length ∧ v = .int .i64 (k : Nat) ∧ n = .int .i64 (m : Nat) ∧ max m (depL (ks.drop k)) = N ∧ N1 w wr P d ks (.slice A1 d.ms.length n1) (.slice A2 d.bys.length n2) (.slice A3 ks.length n3)) (fun _ v _ => ks.length - (intOf v).toNat)
 case atStart => exact ⟨0, 0, by omega, rfl, rfl, by rw [List.drop_zero, ← HNN.out]; omega, HN.out⟩
 case round =>
  clear HN
  obtain ⟨k, m, hk, rfl, rfl, hm, hN⟩ := hrel
  have HN := Lib.hid hN; clear hN
  have c10 := (blk11z HN.out.blk).2.2.2.2.2.2.2.2.2.2
  by_cases hlt : k < ks.length
  ·obtain ⟨x, hx⟩ : ∃ x, ks[k]? = some x := ⟨ks[k], List.getElem?_eq_getElem _⟩
   obtain ⟨e, es⟩ := x
   obtain ⟨b, off, mv', bv', kv', rfl, hb, hpb, ⟨k0, k1, k2, k3, k4, k5, k6, k7, k8, k9, k10⟩, hT'⟩ := HN.out.nod.kid k e es hx
   obtain ⟨B1, m1, rfl, -⟩ := hT'.nod.ms.form
   obtain ⟨B2, m2, rfl, -⟩ := hT'.nod.bys.form
   obtain ⟨B3, m3, rfl, -⟩ := hT'.nod.kform
   have HT' := Box.mk hT'
   have HX := Box.mk hx
   have hlt2 : (k : Int) < (ks.length : Int) := by omega
   have hstep := depL_drop ks k _ hx
   have hle := dep_mem (List.mem_of_getElem? hx)
   rw [← HNN.out] at hle
   have HM := Box.mk (And.intro hm hstep)
   have hq : dep (.node e es) ≤ 1000000 := by omega
   have hm2 : m ≤ 1000001 := by omega
   clear hT' hx hm hstep hle
   go_wp2_with fail
   refine (IH.out (.node e es) (List.mem_of_getElem? HX.out) P _ (.slice B1 e.ms.length m1, .slice B2 e.bys.length m2, .slice B3 es.length m3) HT'.out hq).mono ?_
   rintro e1 w1 ⟨rfl, hb1⟩
   have HN2 := Lib.hid (HN.out.next hb1)
   generalize dep (.node e es) = q at hq hm2 HM ⊢
   clear HN hb1 k0 k1 k2 k3 k4 k5 k6 k7 k8 k9 k10 c10
   rcases Nat.le_total q m with hqm | hqm
   ·have hqm2 : (q : Int) ≤ (m : Int) := by omega
    have hmx : max (m : Int) (q : Int) = (m : Int) := by omega
    go_wp2_with fail
    all_goals
     go_roundw
     case rel => exact ⟨k + 1, m, by omega, by go_num, by first | rfl | (congr 1; omega), by have := HM.out; omega, HN2.out⟩
     case measure => simp [intOf]; omega
   ·have hqm2 : (m : Int) ≤ (q : Int) := by omega
    have hmx : max (m : Int) (q : Int) = (q : Int) := by omega
    go_wp2_with fail
    all_goals
     go_roundw
     case rel => exact ⟨k + 1, q, by omega, by go_num, by first | rfl | (congr 1; omega), by have := HM.out; omega, HN2.out⟩
     case measure => simp [intOf]; omega
  ·have hlt2 : ¬ (k : Int) < (ks.length : Int) := by omega
   rw [List.drop_eq_nil_of_le (by omega), depL] at hm
   go_wp2_with fail
   go_ret
   exact ⟨ret_int (by omega), HN.out.below⟩
end
end Go.Proofs.YthoibeajhdhdhaaGreatDoor
