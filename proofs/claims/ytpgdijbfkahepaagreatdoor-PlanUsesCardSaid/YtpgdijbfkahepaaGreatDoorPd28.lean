/- Contracts, packed: Bp Rb Rc Sa Jk Sf. -/
import Derived.Test.YtpgdijbfkahepaaGreatDoorPd11
import Derived.Test.YtpgdijbfkahepaaGreatDoorPd13
import Derived.Test.YtpgdijbfkahepaaGreatDoorPd18
import Derived.Test.YtpgdijbfkahepaaGreatDoorPd19
import Derived.Test.YtpgdijbfkahepaaGreatDoorPd20
import Derived.Test.YtpgdijbfkahepaaGreatDoorPd23
import Derived.Test.YtpgdijbfkahepaaGreatDoorPd25
import Derived.Test.YtpgdijbfkahepaaGreatDoorPd27
set_option linter.unusedVariables false
set_option linter.unusedSimpArgs false
namespace Go.Proofs.YtpgdijbfkahepaaGreatDoor
section
open Go.RowKit FracM
def i64L (l : List Int) : List Value := l.map (Value.int .i64)
theorem i64L_at {w : World} {P : Nat → Nat → Prop} {A : Option Addr} {n c : Nat} {l : List Int} (h : SeqP w P 1 (.slice A n c) l.length (i64L l)) {k : Nat} {x : Int} (hx : l[k]? = some x) : ∃ b off, A = some ⟨b, off, none⟩ ∧ b < w.heap.size ∧ w.cell? ⟨b, off + k, none⟩ = some (.int .i64 x) :=
 h.at1 k (.int .i64 x) (by unfold i64L; rw [List.getElem?_map, hx]; rfl)
theorem SeqP.beloI {w w' : World} {P : Nat → Nat → Prop} {size n : Nat} {v : Value} {xs : List Value} (h : SeqP w P size v n xs) (f : Below w.heap.size w w') : SeqP w' P size v n xs := h.keep (Agree.of_below f)
set_option maxHeartbeats 2000000 in
set_option maxRecDepth 100000 in
theorem sameInts_any (A1 A2 : Option Addr) (c1 c2 : Nat) (P Q : Nat → Nat → Prop) (a b : List Int) (w : World) (ha : SeqP w P 1 (.slice A1 a.length c1) a.length (i64L a)) (hb : SeqP w Q 1 (.slice A2 b.length c2) b.length (i64L b)) (hm : a.length ≤ 1000000000) (hm' : b.length ≤ 1000000000) :
  Calls Tryz.prog 8 #[.slice A1 a.length c1, .slice A2 b.length c2] w (RetB (.bool (decide (a = b))) w) := by
 have HA := Box.mk ha
 have HB := Box.mk hb
 clear ha hb
 by_cases hl : a.length = b.length
 ·have hne : ((a.length : Int) != (b.length : Int)) = false := by simp [hl]
  have HL := Box.mk hl
  clear hl
  go_enter Tryz.func8, Tryz.ntmps8
  go_wp2_with fail
  go_loopw [5] (fun v wr => ∃ k : Nat, k ≤ a.length ∧ v = .int .i64 (k : Nat) ∧ Box (Below w.heap.size w wr) ∧ Box (a.take k = b.take k)) (fun v _ => a.length - (intOf v).toNat)
  case atStart => exact ⟨0, by omega, rfl, ⟨Below.refl _ _⟩, ⟨rfl⟩⟩
  case round =>
   obtain ⟨k, hk, rfl, HBL, HT⟩ := hrel
   by_cases hlt : k < a.length
   ·have hlt2 : (k : Int) < (a.length : Int) := by omega
    have hlt3 : (k : Int) < (b.length : Int) := by have := HL.out; omega
    obtain ⟨x, hx⟩ : ∃ x, a[k]? = some x := ⟨a[k], List.getElem?_eq_getElem _⟩
    obtain ⟨y, hy⟩ : ∃ y, b[k]? = some y := ⟨b[k]'(by have := HL.out; omega), List.getElem?_eq_getElem _⟩
    obtain ⟨b1, off1, rfl, hb1, p1⟩ := i64L_at (HA.out.beloI HBL.out) hx
    obtain ⟨b2, off2, rfl, hb2, p2⟩ := i64L_at (HB.out.beloI HBL.out) hy
    have HXY := Box.mk (And.intro hx hy)
    clear hx hy
    by_cases hq : x = y
    ·subst hq
     have hq2 : (x != x) = false := by simp
     have HT2 : Box (a.take (k + 1) = b.take (k + 1)) := ⟨by rw [List.take_add_one, List.take_add_one, HXY.out.1, HXY.out.2, HT.out]⟩
     go_wp2_with fail
     first | go_region | skip
     all_goals
      go_wp2_with fail
      go_roundw
      case rel => exact ⟨k + 1, by omega, by go_num, ⟨by first | exact HBL.out | exact bdrew HBL.out 1⟩, HT2⟩
      case measure => simp [intOf]; omega
    ·have hq2 : (x != y) = true := by simp [hq]
     have HN : Box (decide (a = b) = false) := ⟨decide_eq_false fun h => hq (by have h1 := HXY.out.1; rw [h, HXY.out.2] at h1; exact (Option.some.inj h1).symm)⟩
     clear hq
     go_wp2_with fail
     first | go_region | skip
     all_goals
      go_wp2_with fail
      go_ret
      exact ⟨ret_bool HN.out.symm, by first | exact HBL.out | exact bdrew HBL.out 1⟩
   ·have hlt2 : ¬ (k : Int) < (a.length : Int) := by omega
    have HE : Box (decide (a = b) = true) := ⟨decide_eq_true (by have h := HT.out; rw [List.take_of_length_le (by omega), List.take_of_length_le (by have := HL.out; omega)] at h; exact h)⟩
    go_wp2_with fail
    go_ret
    exact ⟨ret_bool HE.out.symm, HBL.out⟩
 ·have hne : ((a.length : Int) != (b.length : Int)) = true := by simp; omega
  have HE : Box (decide (a = b) = false) := ⟨decide_eq_false fun h => hl (by rw [h])⟩
  go_enter Tryz.func8, Tryz.ntmps8
  go_wp2_with fail
  go_ret
  exact ⟨ret_bool HE.out.symm, Below.refl _ _⟩
end
section
open Go.RowKit FracM
end
section
open Go.RowKit FracM
theorem blk11z {W : World} {g : Nat} {t : TypeId} {d : Nd} {mv bv kv : Value} (h : Blk W g t (ndC d mv bv kv)) : W.cell? ⟨g, 0, none⟩ = some (.int .i64 d.kind) ∧ W.cell? ⟨g, 1, none⟩ = some (.int .i64 d.fn) ∧ W.cell? ⟨g, 2, none⟩ = some (.int .i64 d.win) ∧ W.cell? ⟨g, 3, none⟩ = some (.int .i64 d.off) ∧ W.cell? ⟨g, 4, none⟩ = some (.int .i64 d.k) ∧ W.cell? ⟨g, 5, none⟩ = some (.int .i64 d.num) ∧ W.cell? ⟨g, 6, none⟩ = some (.int .i64 d.den) ∧ W.cell? ⟨g, 7, none⟩ = some (.string d.name) ∧ W.cell? ⟨g, 8, none⟩ = some mv ∧ W.cell? ⟨g, 9, none⟩ = some bv ∧ W.cell? ⟨g, 10, none⟩ = some kv := by
 unfold Blk at h
 refine ⟨?_, ?_, ?_, ?_, ?_, ?_, ?_, ?_, ?_, ?_, ?_⟩ <;> simp [World.cell?, h]
end
section
open Go.RowKit FracM
theorem nds_pos (t : Tree) : 1 ≤ nds t := by cases t; rw [nds]; omega
theorem ndsL_drop (ks : List Tree) (k : Nat) (x : Tree) (hx : ks[k]? = some x) : ndsL (ks.drop k) = nds x + ndsL (ks.drop (k + 1)) := by
 obtain ⟨h1, h2⟩ := List.getElem?_eq_some_iff.1 hx
 rw [List.drop_eq_getElem_cons h1, h2, ndsL]
theorem nds_mem {ks : List Tree} {x : Tree} (hx : x ∈ ks) : nds x ≤ ndsL ks := by
 induction ks with
 | nil => simp at hx
 | cons t ts ih =>
  rw [ndsL]
  rcases List.mem_cons.1 hx with e | e
  ·subst e; omega
  ·have := ih e; omega
set_option maxHeartbeats 2000000 in
set_option maxRecDepth 100000 in
theorem nodes_any : ∀ t, ∀ (P : Nat → Nat → Prop) (w : World) (s : Sl), TreeAt w P t s → nds t ≤ 1000000 → Calls Tryz.prog 29 #[.agg (ndC t.d s.1 s.2.1 s.2.2)] w (RetB (.int .i64 (nds t)) w) := by
 refine Tree.ind ?_
 intro d ks ih P w ⟨mv, bv, kv⟩ hT hn
 have IH := Box.mk ih
 have HN := Lib.hid (N1.start hT)
 obtain ⟨A1, n1, hmv, l1⟩ := hT.nod.ms.form
 obtain ⟨A2, n2, hbv, l2⟩ := hT.nod.bys.form
 obtain ⟨A3, n3, hkv, l3⟩ := hT.nod.kform
 subst hmv hbv hkv
 rw [nds] at hn ⊢
 obtain ⟨N, hN⟩ : ∃ N, N = ndsL ks := ⟨_, rfl⟩
 rw [← hN] at hn ⊢
 have HNN := Box.mk hN
 clear hT ih hN
 simp only [Tree.d]
 go_enter Tryz.func29, Tryz.ntmps29
 go_upto_region 1 with (fail)
 generalize w.alloc (.cells (ndC d _ _ _) 35) = W at HN ⊢
 go_wp2_with fail
 go_loopw [3, 4] (fun n v wr => ∃ k m : Nat, k ≤ ks.length ∧ v = .int .i64 (k : Nat) ∧ n = .int .i64 (m : Nat) ∧ m + ndsL (ks.drop k) = N + 1 ∧ N1 w wr P d ks (.slice A1 d.ms.length n1) (.slice A2 d.bys.length n2) (.slice A3 ks.length n3)) (fun _ v _ => ks.length - (intOf v).toNat)
 case atStart => exact ⟨0, 1, by omega, rfl, rfl, by rw [List.drop_zero, ← HNN.out]; omega, HN.out⟩
 case round =>
  clear HN
  obtain ⟨k, m, hk, rfl, rfl, hm, hN⟩ := hrel
  have HN := Lib.hid hN; clear hN
  have c10 := (blk11z HN.out.blk).2.2.2.2.2.2.2.2.2.2
  by_cases hlt : k < ks.length
  ·obtain ⟨x, hx⟩ : ∃ x, ks[k]? = some x := ⟨ks[k], List.getElem?_eq_getElem _⟩
   obtain ⟨e, es⟩ := x
   obtain ⟨b, off, mv', bv', kv', rfl, hb, hpb, ⟨k0, k1, k2, k3, k4, k5, k6, k7, k8, k9, k10⟩, hT'⟩ := HN.out.nod.kid k e es hx
   obtain ⟨B1, m1, rfl, -⟩ := hT'.nod.ms.form
   obtain ⟨B2, m2, rfl, -⟩ := hT'.nod.bys.form
   obtain ⟨B3, m3, rfl, -⟩ := hT'.nod.kform
   have HT' := Box.mk hT'
   have HX := Box.mk hx
   have hlt2 : (k : Int) < (ks.length : Int) := by omega
   have hstep := ndsL_drop ks k _ hx
   have hle := nds_mem (List.mem_of_getElem? hx)
   rw [← HNN.out] at hle
   have HM := Box.mk (And.intro hm hstep)
   have hq : nds (.node e es) ≤ 1000000 := by omega
   have hm2 : m + nds (.node e es) ≤ 1000001 := by omega
   clear hT' hx hm hstep hle
   go_wp2_with fail
   refine (IH.out (.node e es) (List.mem_of_getElem? HX.out) P _ (.slice B1 e.ms.length m1, .slice B2 e.bys.length m2, .slice B3 es.length m3) HT'.out hq).mono ?_
   rintro e1 w1 ⟨rfl, hb1⟩
   have HN2 := Lib.hid (HN.out.next hb1)
   generalize nds (.node e es) = q at hq hm2 HM ⊢
   clear HN hb1 k0 k1 k2 k3 k4 k5 k6 k7 k8 k9 k10 c10
   go_wp2_with fail
   go_roundw
   case rel => exact ⟨k + 1, m + q, by omega, by go_num, by go_num, by have := HM.out; omega, HN2.out⟩
   case measure => simp [intOf]; omega
  ·have hlt2 : ¬ (k : Int) < (ks.length : Int) := by omega
   rw [List.drop_eq_nil_of_le (by omega), ndsL] at hm
   go_wp2_with fail
   go_ret
   exact ⟨ret_int (by omega), HN.out.below⟩
theorem depL_drop (ks : List Tree) (k : Nat) (x : Tree) (hx : ks[k]? = some x) : depL (ks.drop k) = max (dep x) (depL (ks.drop (k + 1))) := by
 obtain ⟨h1, h2⟩ := List.getElem?_eq_some_iff.1 hx
 rw [List.drop_eq_getElem_cons h1, h2, depL]
theorem dep_mem {ks : List Tree} {x : Tree} (hx : x ∈ ks) : dep x ≤ depL ks := by
 induction ks with
 | nil => simp at hx
 | cons t ts ih =>
  rw [depL]
  rcases List.mem_cons.1 hx with e | e
  ·subst e; omega
  ·have := ih e; omega
set_option maxHeartbeats 2000000 in
set_option maxRecDepth 100000 in
theorem depth_any : ∀ t, ∀ (P : Nat → Nat → Prop) (w : World) (s : Sl), TreeAt w P t s → dep t ≤ 1000000 → Calls Tryz.prog 28 #[.agg (ndC t.d s.1 s.2.1 s.2.2)] w (RetB (.int .i64 (dep t)) w) := by
 refine Tree.ind ?_
 intro d ks ih P w ⟨mv, bv, kv⟩ hT hn
 have IH := Box.mk ih
 have HN := Lib.hid (N1.start hT)
 obtain ⟨A1, n1, hmv, l1⟩ := hT.nod.ms.form
 obtain ⟨A2, n2, hbv, l2⟩ := hT.nod.bys.form
 obtain ⟨A3, n3, hkv, l3⟩ := hT.nod.kform
 subst hmv hbv hkv
 rw [dep] at hn ⊢
 obtain ⟨N, hN⟩ : ∃ N, N = depL ks := ⟨_, rfl⟩
 rw [← hN] at hn ⊢
 have HNN := Box.mk hN
 clear hT ih hN
 simp only [Tree.d]
 go_enter Tryz.func28, Tryz.ntmps28
 go_upto_region 1 with (fail)
 generalize w.alloc (.cells (ndC d _ _ _) 35) = W at HN ⊢
 go_wp2_with fail
 go_loopw [3, 4] (fun n v wr => ∃ k m : Nat, k ≤ ks.length ∧ v = .int .i64 (k : Nat) ∧ n = .int .i64 (m : Nat) ∧ max m (depL (ks.drop k)) = N ∧ N1 w wr P d ks (.slice A1 d.ms.length n1) (.slice A2 d.bys.length n2) (.slice A3 ks.length n3)) (fun _ v _ => ks.length - (intOf v).toNat)
 case atStart => exact ⟨0, 0, by omega, rfl, rfl, by rw [List.drop_zero, ← HNN.out]; omega, HN.out⟩
 case round =>
  clear HN
  obtain ⟨k, m, hk, rfl, rfl, hm, hN⟩ := hrel
  have HN := Lib.hid hN; clear hN
  have c10 := (blk11z HN.out.blk).2.2.2.2.2.2.2.2.2.2
  by_cases hlt : k < ks.length
  ·obtain ⟨x, hx⟩ : ∃ x, ks[k]? = some x := ⟨ks[k], List.getElem?_eq_getElem _⟩
   obtain ⟨e, es⟩ := x
   obtain ⟨b, off, mv', bv', kv', rfl, hb, hpb, ⟨k0, k1, k2, k3, k4, k5, k6, k7, k8, k9, k10⟩, hT'⟩ := HN.out.nod.kid k e es hx
   obtain ⟨B1, m1, rfl, -⟩ := hT'.nod.ms.form
   obtain ⟨B2, m2, rfl, -⟩ := hT'.nod.bys.form
   obtain ⟨B3, m3, rfl, -⟩ := hT'.nod.kform
   have HT' := Box.mk hT'
   have HX := Box.mk hx
   have hlt2 : (k : Int) < (ks.length : Int) := by omega
   have hstep := depL_drop ks k _ hx
   have hle := dep_mem (List.mem_of_getElem? hx)
   rw [← HNN.out] at hle
   have HM := Box.mk (And.intro hm hstep)
   have hq : dep (.node e es) ≤ 1000000 := by omega
   have hm2 : m ≤ 1000001 := by omega
   clear hT' hx hm hstep hle
   go_wp2_with fail
   refine (IH.out (.node e es) (List.mem_of_getElem? HX.out) P _ (.slice B1 e.ms.length m1, .slice B2 e.bys.length m2, .slice B3 es.length m3) HT'.out hq).mono ?_
   rintro e1 w1 ⟨rfl, hb1⟩
   have HN2 := Lib.hid (HN.out.next hb1)
   generalize dep (.node e es) = q at hq hm2 HM ⊢
   clear HN hb1 k0 k1 k2 k3 k4 k5 k6 k7 k8 k9 k10 c10
   rcases Nat.le_total q m with hqm | hqm
   ·have hqm2 : (q : Int) ≤ (m : Int) := by omega
    have hmx : max (m : Int) (q : Int) = (m : Int) := by omega
    go_wp2_with fail
    all_goals
     go_roundw
     case rel => exact ⟨k + 1, m, by omega, by go_num, by first | rfl | (congr 1; omega), by have := HM.out; omega, HN2.out⟩
     case measure => simp [intOf]; omega
   ·have hqm2 : (m : Int) ≤ (q : Int) := by omega
    have hmx : max (m : Int) (q : Int) = (q : Int) := by omega
    go_wp2_with fail
    all_goals
     go_roundw
     case rel => exact ⟨k + 1, q, by omega, by go_num, by first | rfl | (congr 1; omega), by have := HM.out; omega, HN2.out⟩
     case measure => simp [intOf]; omega
  ·have hlt2 : ¬ (k : Int) < (ks.length : Int) := by omega
   rw [List.drop_eq_nil_of_le (by omega), depL] at hm
   go_wp2_with fail
   go_ret
   exact ⟨ret_int (by omega), HN.out.below⟩
end
section
open Go.RowKit FracM
end
section
open Go.RowKit FracM
/-- the index of a string in a list, or -1 -/
def findI (s : ByteArray) : List ByteArray → Nat → Int
 | [], _ => -1
 | x :: xs, k => if x.toList == s.toList then k else findI s xs (k + 1)
theorem findI_ge (s : ByteArray) (l : List ByteArray) (k : Nat) : decide (0 ≤ findI s l k) = l.any (fun x => x.toList == s.toList) := by
 induction l generalizing k with
 | nil => rfl
 | cons x xs ih =>
  rw [findI, List.any_cons]
  by_cases h : (x.toList == s.toList) = true
  ·rw [if_pos h, h]; simp
  ·rw [if_neg h, ih (k + 1)]; simp at h; simp [h]
set_option maxHeartbeats 400000 in
theorem rfind_any (A : Option Addr) (n c : Nat) (l : List ByteArray) (s : ByteArray) (w : World) (h : StrsP w (.slice A n c) l) : Calls Tryz.prog 67 #[.slice A n c, .string s] w fun e w' => e = .returned (.int .i64 (findI s l 0)) ∧ w' = w := by
 obtain ⟨A', c', hv, hn⟩ := h.form
 cases hv
 have HW := Box.mk h; clear h
 go_enter Tryz.func67, Tryz.ntmps67
 go_wp2
 go_loop [5] (fun v => ∃ k : Nat, k ≤ l.length ∧ v = .int .i64 (k : Nat) ∧ Box (findI s (l.drop k) k = findI s l 0)) (fun v => l.length - (intOf v).toNat)
 case atStart => exact ⟨0, by omega, rfl, ⟨rfl⟩⟩
 case round =>
  obtain ⟨k, hk, rfl, HI⟩ := hrel
  by_cases h5 : k = l.length
  ·have h6 : ¬ (k : Int) < (l.length : Int) := by omega
   go_wp2
   go_ret
   exact ⟨ret_int (by rw [← HI.out, List.drop_eq_nil_of_le (by omega)]; rfl), rfl⟩
  ·obtain ⟨x, hx⟩ : ∃ x, l[k]? = some x := ⟨l[k]'(by omega), List.getElem?_eq_getElem _⟩
   obtain ⟨b, off, rfl, hb, hs⟩ := SeqP.at1 HW.out k (.string x) (by simp [hx])
   have hk2 : (k : Int) < (l.length : Int) := by omega
   have HD : Box (l.drop k = x :: l.drop (k + 1)) := ⟨by
    rw [List.drop_eq_getElem_cons (by omega : k < l.length)]
    rw [(List.getElem?_eq_some_iff.1 hx).2]⟩
   have hk3 : k < l.length := by omega
   clear h5 hx
   by_cases hn2 : (x.toList == s.toList) = true
   ·go_wp2
    go_ret
    exact ⟨ret_int (by rw [← HI.out, HD.out, findI, if_pos hn2]), rfl⟩
   ·have hn1 : (x.toList == s.toList) = false := by simpa using hn2
    clear hn2
    go_wp2
    go_round
    case rel => exact ⟨k + 1, by omega, by go_num, ⟨by rw [← HI.out, HD.out, findI, if_neg (by rw [hn1]; simp)]⟩⟩
    case measure => simp [intOf]; omega
theorem rgroups_any (w : World) : Calls Tryz.prog 68 #[] w fun e w' => e = .returned (.slice (some ⟨w.heap.size, 0, none⟩) 5 5) ∧ w' = w.alloc (.cells #[.string ⟨#[115, 117, 109]⟩, .string ⟨#[109, 105, 110]⟩, .string ⟨#[109, 97, 120]⟩, .string ⟨#[99, 111, 117, 110, 116]⟩, .string ⟨#[107, 116, 104]⟩] 9) := by
 go_enter Tryz.func68, Tryz.ntmps68
 go_wp2
 go_ret
 exact ⟨rfl, rfl⟩
theorem groups_at (w : World) : StrsP (w.alloc (.cells #[.string ⟨#[115, 117, 109]⟩, .string ⟨#[109, 105, 110]⟩, .string ⟨#[109, 97, 120]⟩, .string ⟨#[99, 111, 117, 110, 116]⟩, .string ⟨#[107, 116, 104]⟩] 9)) (.slice (some ⟨w.heap.size, 0, none⟩) 5 5) groupsL :=
 SeqP.of_blk (n := 5) (size := 1) (Blk.new _ _ _) rfl (by omega) trivial
set_option maxHeartbeats 4000000 in
set_option maxRecDepth 100000 in
theorem rwithin_any (d : Nd) (ks : List Tree) (P : Nat → Nat → Prop) (w : World) (mv bv kv : Value) (hT : TreeAt w P (.node d ks) (mv, bv, kv)) (hk0 : 0 ≤ d.kind ∧ d.kind ≤ 3) (hkk : d.kind ≠ 1 → d.kind ≠ 2 → d.k = 0) : Calls Tryz.prog 49 #[.agg (ndC d mv bv kv)] w (RetB (.bool (rangedB d)) w) := by
 have HN := Lib.hid (N1.start hT)
 have HO := Box.mk hT.nod.ok
 have HK := Box.mk (And.intro hk0 hkk)
 clear hT hk0 hkk
 go_enter Tryz.func49, Tryz.ntmps49
 go_upto_region 1 with (fail)
 generalize w.alloc (.cells (ndC d _ _ _) 35) = W at HN ⊢
 obtain ⟨c0, c1, c2, c3, c4, c5, c6, c7, c8, c9, c10⟩ := HN.out.c
 simp only [Nat.zero_add] at c1 c2 c3 c4 c5 c6 c7 c8 c9 c10
 go_wp2_with fail
 all_goals
  go_ret
  refine ⟨ret_bool ?_, HN.out.below⟩
  have hkk := HK.out.2
  unfold rangedB
  simp_all
  try (intros; omega)
end
end Go.Proofs.YtpgdijbfkahepaaGreatDoor
