/- Contracts, packed: Qe. -/
import Derived.Test.YtpgdijbfkahepaaGreatDoorPd19
import Derived.Deep.RegionWith
set_option linter.unusedVariables false
set_option linter.unusedSimpArgs false
namespace Go.Proofs.YtpgdijbfkahepaaGreatDoor
section
open Go.RowKit FracM
/-- what the program's own variables hold: the group words too -/
structure WordsG (w : World) : Prop where
 base : WordsW w
 grp : ∀ (k : Nat) (x : ByteArray), groupsL[k]? = some x → w.cell? ⟨1, k, none⟩ = some (.string x)
theorem WordsG.below {w w' : World} (h : WordsG w) (hb : Below w.heap.size w w') : WordsG w' := ⟨h.base.below hb, fun k x hx => (hb.cell h.base.low.1).trans (h.grp k x hx)⟩
theorem beq_swap (a b : List UInt8) : (a == b) = (b == a) := by
 rw [Bool.eq_iff_iff, beq_iff_eq, beq_iff_eq]; exact eq_comm
set_option maxHeartbeats 400000 in
theorem index_any (s : ByteArray) (w : World) (hw : WordsG w) : Calls Tryz.prog 92 #[.slice (some ⟨1, 0, none⟩) 5 5, .string s] w fun e w' => ∃ r : Int, e = .returned (.int .i64 r) ∧ decide (0 ≤ r) = inGroups s ∧ w' = w := by
 have HW := Box.mk hw; clear hw
 go_enter Tryz.func92, Tryz.ntmps92
 go_wp2
 go_loop [8] (fun v => ∃ k : Nat, k ≤ 5 ∧ v = .int .i64 (k : Nat) ∧ Box ((groupsL.drop k).any (fun x => x.toList == s.toList) = inGroups s)) (fun v => (5 - intOf v).toNat)
 case atStart => exact ⟨0, by omega, rfl, ⟨rfl⟩⟩
 case round =>
  obtain ⟨k, hk, rfl, HI⟩ := hrel
  by_cases h5 : k = 5
  ·subst h5
   go_wp2
   go_ret
   exact ⟨_, rfl, by rw [← HI.out]; rfl, rfl⟩
  ·obtain ⟨x, hx⟩ : ∃ x, groupsL[k]? = some x := ⟨groupsL[k]'(by simp [groupsL]; omega), List.getElem?_eq_getElem _⟩
   have hs := HW.out.grp k x hx
   have hk2 : (k : Int) < 5 := by omega
   have hk3 : k < 5 := by omega
   have HD : Box (groupsL.drop k = x :: groupsL.drop (k + 1)) := ⟨by
    rw [List.drop_eq_getElem_cons (by simp [groupsL]; omega : k < groupsL.length)]
    rw [(List.getElem?_eq_some_iff.1 hx).2]⟩
   clear h5 hx
   by_cases hn : (s.toList == x.toList) = true
   ·go_wp2
    go_ret
    refine ⟨_, rfl, ?_, rfl⟩
    rw [← HI.out, HD.out, List.any_cons, beq_swap, hn]
    simp
   ·have hn1 : (s.toList == x.toList) = false := by simpa using hn
    clear hn
    go_wp2
    go_round
    case rel => exact ⟨k + 1, by omega, rfl, ⟨by rw [← HI.out, HD.out, List.any_cons, beq_swap, hn1]; simp⟩⟩
    case measure => simp [intOf]; omega
set_option maxHeartbeats 400000 in
theorem contains_any (s : ByteArray) (w : World) (hw : WordsG w) : Calls Tryz.prog 97 #[.slice (some ⟨1, 0, none⟩) 5 5, .string s] w (RetB (.bool (inGroups s)) w) := by
 have HW := Box.mk hw; clear hw
 go_enter Tryz.func97, Tryz.ntmps97
 go_wp2_with fail
 refine (index_any s _ HW.out).mono ?_
 rintro e w1 ⟨r, rfl, hr, rfl⟩
 have HR := Box.mk hr; clear hr
 go_wp2_with fail
 go_ret
 exact ⟨ret_bool HR.out, Below.refl _ _⟩
def badB (d : Nd) : Bool := (d.kind == 1) && !(nameB d.name && !inGroups d.name)
theorem named_ok {d : Nd} (h : badB d = false) : namedB d = (d.ms.all vmatB && bysB d.bys) := by
 unfold badB at h
 unfold namedB
 cases hk : (d.kind == 1) <;> cases hn : nameB d.name <;> cases hg : inGroups d.name <;> rw [hk, hn, hg] at h <;> simp at h <;> rfl
theorem named_bad {d : Nd} (h : badB d = true) : namedB d = false := by
 unfold badB at h
 unfold namedB
 cases hk : (d.kind == 1) <;> cases hn : nameB d.name <;> cases hg : inGroups d.name <;> rw [hk, hn, hg] at h <;> simp at h <;> rfl
theorem bysFrom_no {p : Option ByteArray} {x : ByteArray} {xs : List ByteArray} (h : nameB x = false) : bysFrom p (x :: xs) = false := by
 unfold bysFrom; rw [h]; rfl
theorem bysFrom_first {x : ByteArray} {xs : List ByteArray} (h : nameB x = true) : bysFrom none (x :: xs) = bysFrom (some x) xs := by
 rw [bysFrom.eq_def]; simp [h]
theorem bysFrom_le {y x : ByteArray} {xs : List ByteArray} (h : leS x y = true) : bysFrom (some y) (x :: xs) = false := by
 rw [bysFrom.eq_def]; simp [h]
theorem bysFrom_gt {y x : ByteArray} {xs : List ByteArray} (h : nameB x = true) (h2 : leS x y = false) : bysFrom (some y) (x :: xs) = bysFrom (some x) xs := by
 rw [bysFrom.eq_def]; simp [h, h2]
def prevOf (l : List ByteArray) (k : Nat) : Option ByteArray := if k = 0 then none else l[k - 1]?
theorem N1.drew {w W : World} {P : Nat → Nat → Prop} {d : Nd} {ks : List Tree} {mv bv kv : Value} (h : N1 w W P d ks mv bv kv) : N1 w W.drew P d ks mv bv kv := h.next (below_drewN W 1)
theorem SeqP.at1 {w : World} {P : Nat → Nat → Prop} {A : Option Addr} {n c m : Nat} {xs : List Value} (h : SeqP w P 1 (.slice A n c) m xs) (k : Nat) (u : Value) (hk : xs[k]? = some u) : ∃ b off, A = some ⟨b, off, none⟩ ∧ b < w.heap.size ∧ w.cell? ⟨b, off + k, none⟩ = some u := by
 obtain ⟨b, off, h1, h2, h3⟩ := (h.seq (t := 0)).at1 k u hk
 exact ⟨b, off, h1, h2, h3⟩
theorem N1.kindAt {w W : World} {P : Nat → Nat → Prop} {d : Nd} {ks : List Tree} {mv bv kv : Value} {x : Int} (h : N1 w W P d ks mv bv kv) (hx : d.kind = x) : W.cell? ⟨w.heap.size, 0, none⟩ = some (.int .i64 x) := hx ▸ h.c.1
set_option maxHeartbeats 4000000 in
set_option maxRecDepth 100000 in
theorem named_any (d : Nd) (ks : List Tree) (P : Nat → Nat → Prop) (w : World) (mv bv kv : Value) (hT : TreeAt w P (.node d ks) (mv, bv, kv)) (hw : WordsG w) : Calls Tryz.prog 81 #[.agg (ndC d mv bv kv)] w (RetB (.bool (namedB d)) w) := by
 have HN := Lib.hid (N1.start hT)
 obtain ⟨A1, n1, rfl, l1⟩ := hT.nod.ms.form
 obtain ⟨A2, n2, rfl, l2⟩ := hT.nod.bys.form
 have HO := Box.mk hT.nod.ok
 have HW := Box.mk hw
 clear hT hw
 go_enter Tryz.func81, Tryz.ntmps81
 go_upto_region 1 with (fail)
 generalize w.alloc (.cells (ndC d _ _ _) 35) = W at HN ⊢
 obtain ⟨c0, c1, c2, c3, c4, c5, c6, c7, c8, c9, c10⟩ := HN.out.c
 simp only [Nat.zero_add] at c7
 clear c1 c2 c3 c4 c5 c6 c8 c9 c10
 have hns := HO.out.name
 go_cut [21] (fun x wx => ∃ q : Bool, x = .bool q ∧ Box (q = badB d) ∧ N1 w wx P d ks (.slice A1 d.ms.length n1) (.slice A2 d.bys.length n2) kv)
 case first =>
  by_cases hk : d.kind = 1
  ·have E1 : Box (badB d = !(nameB d.name && !inGroups d.name)) := ⟨by unfold badB; simp [hk]⟩
   have HK := Box.mk hk
   rw [hk] at c0
   clear hk
   obtain ⟨nb, E2⟩ : ∃ z, Box (nameB d.name = z) := ⟨_, ⟨rfl⟩⟩
   obtain ⟨ig, E3⟩ : ∃ z, Box (inGroups d.name = z) := ⟨_, ⟨rfl⟩⟩
   cases nb
   ·first | go_region_with (go_at_call 96; refine (name_any d.name _ hns).mono ?_; rintro e w5 ⟨rfl, hb5⟩; rw [E2.out]; have HB2 : Hid (N1 w w5 P d ks (.slice A1 d.ms.length n1) (.slice A2 d.bys.length n2) kv) := (by first | exact HN.out.next hb5 | exact HN.out.drew.next hb5); clear HN; have HN := Lib.hid HB2.out; clear HB2; clear hb5; have c0 := N1.kindAt HN.out HK.out; have c7 := HN.out.c.2.2.2.2.2.2.2.1) | fail
    all_goals
     go_wp2_with fail
     go_meet
     exact ⟨_, rfl, ⟨by rw [E1.out, E2.out]; rfl⟩, HN.out⟩
   cases ig
   all_goals
    go_region_with
     (first
      | (go_at_call 96; refine (name_any d.name _ hns).mono ?_; rintro e w5 ⟨rfl, hb5⟩; rw [E2.out]; have HB2 : Hid (N1 w w5 P d ks (.slice A1 d.ms.length n1) (.slice A2 d.bys.length n2) kv) := (by first | exact HN.out.next hb5 | exact HN.out.drew.next hb5); clear HN; have HN := Lib.hid HB2.out; clear HB2; clear hb5; have c0 := N1.kindAt HN.out HK.out; have c7 := HN.out.c.2.2.2.2.2.2.2.1)
      | (go_at_call 97; refine (contains_any d.name _ (by first | exact HW.out.below HN.out.below | exact HW.out.below HN.out.drew.below)).mono ?_; rintro e w5 ⟨rfl, hb5⟩; rw [E3.out]; have HB2 : Hid (N1 w w5 P d ks (.slice A1 d.ms.length n1) (.slice A2 d.bys.length n2) kv) := (by first | exact HN.out.next hb5 | exact HN.out.drew.next hb5); clear HN; have HN := Lib.hid HB2.out; clear HB2; clear hb5; have c0 := N1.kindAt HN.out HK.out; have c7 := HN.out.c.2.2.2.2.2.2.2.1))
    all_goals
     go_wp2_with fail
     go_meet
     exact ⟨_, rfl, ⟨by rw [E1.out, E2.out, E3.out]; rfl⟩, HN.out⟩
  ·have E1 : Box (badB d = false) := ⟨by unfold badB; simp [hk]⟩
   have hk2 : (d.kind == 1) = false := by simpa using hk
   go_wp2_with fail
   go_region
   all_goals
    go_wp2_with fail
    go_meet
    exact ⟨_, rfl, ⟨by rw [E1.out]⟩, by first | exact HN.out | exact HN.out.drew⟩
 case rest =>
  clear HN c0 c7
  obtain ⟨q, rfl, HQ, hbx⟩ := hcut
  rename World => wd
  have HN := Lib.hid hbx; clear hbx
  cases q
  ·have E0 : Box (namedB d = (d.ms.all vmatB && bysB d.bys)) := ⟨named_ok HQ.out.symm⟩
   have c8 := HN.out.c.2.2.2.2.2.2.2.2.1
   simp only [Nat.zero_add] at c8
   go_wp2_with fail
   go_loopw [25] (fun v wr => ∃ k : Nat, k ≤ d.ms.length ∧ v = .int .i64 (k : Nat) ∧ N1 w wr P d ks (.slice A1 d.ms.length n1) (.slice A2 d.bys.length n2) kv ∧ Box ((d.ms.drop k).all vmatB = d.ms.all vmatB)) (fun v _ => d.ms.length - (intOf v).toNat)
   case atStart => exact ⟨0, by omega, rfl, HN.out, ⟨rfl⟩⟩
   case round =>
    clear HN c8
    obtain ⟨k, hk, rfl, hN, HA⟩ := hrel
    have HN := Lib.hid hN; clear hN
    by_cases hlt : k < d.ms.length
    ·obtain ⟨x, hx⟩ : ∃ x, d.ms[k]? = some x := ⟨d.ms[k], List.getElem?_eq_getElem _⟩
     obtain ⟨b, off, rfl, hb, m0, m1, m2⟩ := Mats.at_ (w := wr) (base := wr.heap.size) (HN.out.nod.ms.seq) k x hx
     obtain ⟨s1, s2⟩ := HO.out.ms x (List.mem_of_getElem? hx)
     obtain ⟨x0, x1, x2⟩ := x
     have HD : Box (d.ms.drop k = (x0, x1, x2) :: d.ms.drop (k + 1)) := ⟨by
      rw [List.drop_eq_getElem_cons hlt, (List.getElem?_eq_some_iff.1 hx).2]⟩
     clear hx
     have hlt2 : (k : Int) < (d.ms.length : Int) := by omega
     go_wp2_with fail
     refine (vmat_any _ _ _ _ s1 s2).mono ?_
     rintro e w5 ⟨rfl, hb5⟩
     have HN2 := Lib.hid ((HN.out.next (bel1 _ _)).next hb5)
     clear HN hb5 m0 m1 m2
     obtain ⟨vb, E2⟩ : ∃ z, Box (vmatB (x0, x1, x2) = z) := ⟨_, ⟨rfl⟩⟩
     rw [E2.out]
     cases vb
     ·go_wp2_with fail
      go_ret
      exact ⟨ret_bool (by rw [E0.out, ← HA.out, HD.out, List.all_cons, E2.out]; simp), HN2.out.below⟩
     ·go_wp2_with fail
      go_roundw
      case rel => exact ⟨k + 1, by omega, by go_num, HN2.out, ⟨by rw [← HA.out, HD.out, List.all_cons, E2.out]; simp⟩⟩
      case measure => simp [intOf]; omega
    ·have hlt2 : ¬ (k : Int) < (d.ms.length : Int) := by omega
     have E3 : Box (namedB d = bysB d.bys) := ⟨by rw [E0.out, ← HA.out, List.drop_eq_nil_of_le (by omega)]; simp⟩
     clear HA E0
     have c9 := HN.out.c.2.2.2.2.2.2.2.2.2.1
     simp only [Nat.zero_add] at c9
     go_wp2_with fail
     go_loopw [36] (fun v wr => ∃ k : Nat, k ≤ d.bys.length ∧ v = .int .i64 (k : Nat) ∧ N1 w wr P d ks (.slice A1 d.ms.length n1) (.slice A2 d.bys.length n2) kv ∧ Box (bysFrom (prevOf d.bys k) (d.bys.drop k) = bysB d.bys)) (fun v _ => d.bys.length - (intOf v).toNat)
     case atStart => exact ⟨0, by omega, rfl, HN.out, ⟨rfl⟩⟩
     case round =>
      clear HN c9
      obtain ⟨k, hk, rfl, hN, HA⟩ := hrel
      have HN := Lib.hid hN; clear hN
      have c9 := HN.out.c.2.2.2.2.2.2.2.2.2.1
      simp only [Nat.zero_add] at c9
      by_cases hlt : k < d.bys.length
      ·obtain ⟨x, hx⟩ : ∃ x, d.bys[k]? = some x := ⟨d.bys[k], List.getElem?_eq_getElem _⟩
       obtain ⟨b, off, rfl, hb, m0⟩ := HN.out.nod.bys.at1 k (.string x) (by simp [hx])
       have sx := HO.out.bys x (List.mem_of_getElem? hx)
       have HD : Box (d.bys.drop k = x :: d.bys.drop (k + 1)) := ⟨by
        rw [List.drop_eq_getElem_cons hlt, (List.getElem?_eq_some_iff.1 hx).2]⟩
       have HX : Box (prevOf d.bys (k + 1) = some x) := ⟨by unfold prevOf; simpa using hx⟩
       have hlt2 : (k : Int) < (d.bys.length : Int) := by omega
       clear hx
       go_wp2_with fail
       refine (name_any x _ sx).mono ?_
       rintro e w5 ⟨rfl, hb5⟩
       have HN2 := Lib.hid (HN.out.next hb5)
       clear HN hb5 m0 c9
       obtain ⟨nb, E2⟩ : ∃ z, Box (nameB x = z) := ⟨_, ⟨rfl⟩⟩
       rw [E2.out]
       cases nb
       ·go_wp2_with fail
        go_ret
        exact ⟨ret_bool (by rw [E3.out, ← HA.out, HD.out, bysFrom_no E2.out]), HN2.out.below⟩
       ·have c9 := HN2.out.c.2.2.2.2.2.2.2.2.2.1
        simp only [Nat.zero_add] at c9
        cases k with
        | zero =>
         have E4 : Box (bysFrom (some x) (d.bys.drop (0 + 1)) = bysB d.bys) := ⟨by rw [← HA.out, HD.out, show prevOf d.bys 0 = none from rfl, bysFrom_first E2.out]⟩
         go_wp2_with fail
         go_roundw
         case rel => exact ⟨0 + 1, by omega, by go_num, HN2.out, ⟨by rw [HX.out]; exact E4.out⟩⟩
         case measure => simp [intOf]; omega
        | succ j =>
         obtain ⟨y, hy⟩ : ∃ y, d.bys[j]? = some y := ⟨d.bys[j]'(by omega), List.getElem?_eq_getElem _⟩
         obtain ⟨b', off', hA, hb', m1⟩ := HN2.out.nod.bys.at1 j (.string y) (by simp [hy])
         cases hA
         have HY : Box (prevOf d.bys (j + 1) = some y) := ⟨by unfold prevOf; simpa using hy⟩
         have hj : 0 < ((j + 1 : Nat) : Int) := by omega
         have hj1 : IntKind.i64.wrap (((j + 1 : Nat) : Int) - 1) = (j : Int) := by rw [show ((j + 1 : Nat) : Int) - 1 = (j : Int) by omega]; exact W64_in (by omega) (by omega)
         have hj2 : (j : Int) < (d.bys.length : Int) := by omega
         clear hy
         go_wp2_with fail
         ·have q0 : Op.bytesLess x.toList y.toList = true ∨ (x.toList == y.toList) = true := by assumption
          have q : leS x y = true := by unfold leS; rcases q0 with h | h <;> simp [h]
          go_ret
          exact ⟨ret_bool (by rw [E3.out, ← HA.out, HD.out, HY.out, bysFrom_le q]), HN2.out.below⟩
         ·have q0 : Op.bytesLess x.toList y.toList = false ∧ (x.toList == y.toList) = false := by assumption
          have q : leS x y = false := by unfold leS; rw [q0.1, q0.2]; rfl
          have E4 : Box (bysFrom (some x) (d.bys.drop (j + 1 + 1)) = bysB d.bys) := ⟨by rw [← HA.out, HD.out, HY.out, bysFrom_gt E2.out q]⟩
          go_roundw
          case rel => exact ⟨j + 1 + 1, by omega, by go_num, HN2.out, ⟨by rw [HX.out]; exact E4.out⟩⟩
          case measure => simp [intOf]; omega
      ·have hlt2 : ¬ (k : Int) < (d.bys.length : Int) := by omega
       go_wp2_with fail
       go_ret
       exact ⟨ret_bool (by rw [E3.out, ← HA.out, List.drop_eq_nil_of_le (by omega)]; rfl), HN.out.below⟩
  ·have E0 : Box (namedB d = false) := ⟨named_bad HQ.out.symm⟩
   go_wp2_with fail
   go_ret
   exact ⟨ret_bool (by rw [E0.out]), HN.out.below⟩
set_option maxHeartbeats 2000000 in
set_option maxRecDepth 100000 in
theorem check_any : ∀ t, ∀ (P : Nat → Nat → Prop) (w : World) (s : Sl), TreeAt w P t s → WordsG w → Calls Tryz.prog 62 #[.agg (ndC t.d s.1 s.2.1 s.2.2)] w (RetB (.int .i64 (chk t)) w) := by
 refine Tree.ind ?_
 intro d ks ih P w ⟨mv, bv, kv⟩ hT hw
 have IH := Box.mk ih
 have HN := Lib.hid (N1.start hT)
 obtain ⟨A1, n1, hmv, l1⟩ := hT.nod.ms.form
 obtain ⟨A2, n2, hbv, l2⟩ := hT.nod.bys.form
 obtain ⟨A3, n3, hkv, l3⟩ := hT.nod.kform
 subst hmv hbv hkv
 have HW := Box.mk hw
 obtain ⟨fin, hfin⟩ : ∃ z, chk (.node d ks) = z := ⟨_, rfl⟩
 rw [hfin]
 rw [chk] at hfin
 have HF := Box.mk hfin
 clear hT hw ih hfin
 simp only [Tree.d]
 go_enter Tryz.func62, Tryz.ntmps62
 go_upto_region 1 with (fail)
 generalize w.alloc (.cells (ndC d _ _ _) 35) = W at HN ⊢
 obtain ⟨c0, c1, c2, c3, c4, c5, c6, c7, c8, c9, c10⟩ := HN.out.c
 simp only [Nat.zero_add] at c1 c2 c3 c4 c5 c6 c7 c8 c9 c10
 go_wp2_with fail
 refine (shaped_any d ks P _ _ _ _ HN.out.nod.tree).mono ?_
 rintro e w1 ⟨rfl, hb⟩
 clear c0 c1 c2 c3 c4 c5 c6 c7 c8 c9 c10
 have HN2 := Lib.hid (HN.out.next hb); clear HN hb
 obtain ⟨c0, c1, c2, c3, c4, c5, c6, c7, c8, c9, c10⟩ := HN2.out.c
 simp only [Nat.zero_add] at c1 c2 c3 c4 c5 c6 c7 c8 c9 c10
 obtain ⟨sb, E1⟩ : ∃ z, Box (shapedB d ks.length = z) := ⟨_, ⟨rfl⟩⟩
 rw [E1.out]
 cases sb
 ·go_wp2_with fail
  go_ret
  exact ⟨ret_int (by rw [← HF.out]; unfold chk1; rw [E1.out]; rfl), HN2.out.below⟩
 go_wp2_with fail
 refine (named_any d ks P _ _ _ _ HN2.out.nod.tree (HW.out.below HN2.out.below)).mono ?_
 rintro e w2 ⟨rfl, hb⟩
 clear c0 c1 c2 c3 c4 c5 c6 c7 c8 c9 c10
 have HN := Lib.hid (HN2.out.next hb); clear HN2 hb
 obtain ⟨c0, c1, c2, c3, c4, c5, c6, c7, c8, c9, c10⟩ := HN.out.c
 simp only [Nat.zero_add] at c1 c2 c3 c4 c5 c6 c7 c8 c9 c10
 obtain ⟨nb, E2⟩ : ∃ z, Box (namedB d = z) := ⟨_, ⟨rfl⟩⟩
 rw [E2.out]
 cases nb
 ·go_wp2_with fail
  go_ret
  exact ⟨ret_int (by rw [← HF.out]; unfold chk1; rw [E1.out, E2.out]; rfl), HN.out.below⟩
 by_cases hbig : 8 < d.ms.length ∨ 8 < d.bys.length
 ·have E3 : Box (chk1 d ks.length = 4) := ⟨by unfold chk1; rw [E1.out, E2.out, if_pos hbig]; rfl⟩
  by_cases hb1 : 8 < d.ms.length
  ·go_wp2_with fail
   go_ret
   exact ⟨ret_int (by rw [← HF.out, E3.out]; rfl), HN.out.below⟩
  ·have hb2 : 8 < d.bys.length := by omega
   go_wp2_with fail
   go_ret
   exact ⟨ret_int (by rw [← HF.out, E3.out]; rfl), HN.out.below⟩
 have hb1 : ¬ 8 < d.ms.length := by omega
 have hb2 : ¬ 8 < d.bys.length := by omega
 have HBG := Box.mk hbig
 clear hbig
 go_wp2_with fail
 refine (ranged_any d ks P _ _ _ _ HN.out.nod.tree).mono ?_
 rintro e w3 ⟨rfl, hb⟩
 clear c0 c1 c2 c3 c4 c5 c6 c7 c8 c9 c10
 have HN2 := Lib.hid (HN.out.next hb); clear HN hb
 have c10 := HN2.out.c.2.2.2.2.2.2.2.2.2.2
 simp only [Nat.zero_add] at c10
 obtain ⟨rb, E3⟩ : ∃ z, Box (rangedB d = z) := ⟨_, ⟨rfl⟩⟩
 rw [E3.out]
 cases rb
 ·go_wp2_with fail
  go_ret
  exact ⟨ret_int (by rw [← HF.out]; unfold chk1; rw [E1.out, E2.out, E3.out, if_neg HBG.out]; rfl), HN2.out.below⟩
 have HF2 : Box (chkL ks = fin) := ⟨by rw [← HF.out]; unfold chk1; rw [E1.out, E2.out, E3.out, if_neg HBG.out]; rfl⟩
 clear E1 E2 E3 HBG HF hb1 hb2
 go_wp2_with fail
 go_loopw [28] (fun v wr => ∃ k : Nat, k ≤ ks.length ∧ v = .int .i64 (k : Nat) ∧ N1 w wr P d ks (.slice A1 d.ms.length n1) (.slice A2 d.bys.length n2) (.slice A3 ks.length n3) ∧ Box (chkL (ks.drop k) = fin)) (fun v _ => ks.length - (intOf v).toNat)
 case atStart => exact ⟨0, by omega, rfl, HN2.out, HF2⟩
 case round =>
  clear HN2 c10 HF2
  obtain ⟨k, hk, rfl, hN, HA⟩ := hrel
  have HN := Lib.hid hN; clear hN
  by_cases hlt : k < ks.length
  ·obtain ⟨x, hx⟩ : ∃ x, ks[k]? = some x := ⟨ks[k], List.getElem?_eq_getElem _⟩
   obtain ⟨e, es⟩ := x
   obtain ⟨b, off, mv', bv', kv', rfl, hb, hpb, ⟨k0, k1, k2, k3, k4, k5, k6, k7, k8, k9, k10⟩, hT'⟩ := HN.out.nod.kid k e es hx
   obtain ⟨B1, m1, rfl, -⟩ := hT'.nod.ms.form
   obtain ⟨B2, m2, rfl, -⟩ := hT'.nod.bys.form
   obtain ⟨B3, m3, rfl, -⟩ := hT'.nod.kform
   have HT' := Box.mk hT'
   have HX := Box.mk hx
   have hlt2 : (k : Int) < (ks.length : Int) := by omega
   have HD : Box (ks.drop k = .node e es :: ks.drop (k + 1)) := ⟨by
    rw [List.drop_eq_getElem_cons hlt, (List.getElem?_eq_some_iff.1 hx).2]⟩
   clear hT' hx
   go_upto_region 12 with (fail)
   have HN3 := Lib.hid (HN.out.next (bel1 wr (.cells (ndC e (.slice B1 e.ms.length m1) (.slice B2 e.bys.length m2) (.slice B3 es.length m3)) 35)))
   have HT3 := Box.mk (HT'.out.belo (bel1 wr (.cells (ndC e (.slice B1 e.ms.length m1) (.slice B2 e.bys.length m2) (.slice B3 es.length m3)) 35)))
   have HK3 : Hid (Blk (wr.alloc (.cells (ndC e (.slice B1 e.ms.length m1) (.slice B2 e.bys.length m2) (.slice B3 es.length m3)) 35)) wr.heap.size 35 (ndC e (.slice B1 e.ms.length m1) (.slice B2 e.bys.length m2) (.slice B3 es.length m3))) := Blk.new _ _ _
   clear HN HT' k0 k1 k2 k3 k4 k5 k6 k7 k8 k9 k10
   generalize wr.heap.size = G at *
   generalize wr.alloc (.cells (ndC e (.slice B1 e.ms.length m1) (.slice B2 e.bys.length m2) (.slice B3 es.length m3)) 35) = W3 at *
   obtain ⟨k0, k1, k2, k3, k4, k5, k6, k7, k8, k9, k10⟩ := blk11 HK3.out
   simp only [Nat.zero_add] at k1 k2 k3 k4 k5 k6 k7 k8 k9 k10
   go_wp2_with fail
   refine (IH.out (.node e es) (List.mem_of_getElem? HX.out) P _ (.slice B1 e.ms.length m1, .slice B2 e.bys.length m2, .slice B3 es.length m3) HT3.out (HW.out.below HN3.out.below)).mono ?_
   rintro e1 w1 ⟨rfl, hb1⟩
   have HN4 := Lib.hid (HN3.out.next hb1)
   clear HN3 hb1 k0 k1 k2 k3 k4 k5 k6 k7 k8 k9 k10 HK3
   obtain ⟨q, E1⟩ : ∃ z, Box (chk (.node e es) = z) := ⟨_, ⟨rfl⟩⟩
   rw [E1.out]
   by_cases hq : q = 0
   ·subst hq
    go_wp2_with fail
    go_roundw
    case rel => exact ⟨k + 1, by omega, by go_num, HN4.out, ⟨by rw [← HA.out, HD.out, chkL, if_pos E1.out]⟩⟩
    case measure => simp [intOf]; omega
   ·have hq2 : (q != 0) = true := by simpa using hq
    have hq3 : (q == 0) = false := by simpa using hq
    go_wp2_with fail
    go_ret
    exact ⟨ret_int (by rw [← HA.out, HD.out, chkL, E1.out, if_neg hq]), HN4.out.below⟩
  ·have hlt2 : ¬ (k : Int) < (ks.length : Int) := by omega
   go_wp2_with fail
   go_ret
   exact ⟨ret_int (by rw [← HA.out, List.drop_eq_nil_of_le (by omega), chkL]), HN.out.below⟩
set_option maxHeartbeats 1000000 in
theorem pvalid_any (t : Tree) (P : Nat → Nat → Prop) (w : World) (s : Sl) (hT : TreeAt w P t s) (hw : WordsG w) : Calls Tryz.prog 43 #[.agg (ndC t.d s.1 s.2.1 s.2.2)] w (RetB (.int .i64 (validE t)) w) := by
 obtain ⟨d, ks⟩ := t
 obtain ⟨mv, bv, kv⟩ := s
 have HW := Box.mk hw
 have HN := Lib.hid (N1.start hT)
 clear hT hw
 simp only [Tree.d]
 go_enter Tryz.func43, Tryz.ntmps43
 go_upto_region 1 with (fail)
 generalize w.alloc (.cells (ndC d _ _ _) 35) = W at HN ⊢
 obtain ⟨c0, c1, c2, c3, c4, c5, c6, c7, c8, c9, c10⟩ := HN.out.c
 simp only [Nat.zero_add] at c1 c2 c3 c4 c5 c6 c7 c8 c9 c10
 go_wp2_with fail
 refine (fits_any (.node d ks) P _ (mv, bv, kv) HN.out.nod.tree).mono ?_
 rintro e w1 ⟨rfl, hb⟩
 clear c0 c1 c2 c3 c4 c5 c6 c7 c8 c9 c10
 have HN2 := Lib.hid (HN.out.next hb); clear HN hb
 obtain ⟨c0, c1, c2, c3, c4, c5, c6, c7, c8, c9, c10⟩ := HN2.out.c
 simp only [Nat.zero_add] at c1 c2 c3 c4 c5 c6 c7 c8 c9 c10
 obtain ⟨sb, E1⟩ : ∃ z, Box (fitB (.node d ks) = z) := ⟨_, ⟨rfl⟩⟩
 rw [E1.out]
 cases sb
 ·go_wp2_with fail
  go_ret
  exact ⟨ret_int (by unfold validE; rw [E1.out]; rfl), HN2.out.below⟩
 go_wp2_with fail
 refine (check_any (.node d ks) P _ (mv, bv, kv) HN2.out.nod.tree (HW.out.below HN2.out.below)).mono ?_
 rintro e w2 ⟨rfl, hb⟩
 clear c0 c1 c2 c3 c4 c5 c6 c7 c8 c9 c10
 have HB := Lib.hid (HN2.out.next hb).below; clear HN2 hb
 go_wp2_with fail
 go_ret
 exact ⟨ret_int (by unfold validE; rw [E1.out]; rfl), HB.out⟩
end
end Go.Proofs.YtpgdijbfkahepaaGreatDoor
