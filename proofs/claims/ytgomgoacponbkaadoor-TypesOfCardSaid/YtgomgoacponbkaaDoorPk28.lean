/- Contracts, packed: Sk Sh Sc Sd. -/
import Derived.Test.YtgomgoacponbkaaDoorPk27
set_option linter.unusedVariables false
set_option linter.unusedSimpArgs false
namespace Go.Proofs.YtgomgoacponbkaaDoor
section
open Go.RowKit FracM
set_option maxHeartbeats 4000000 in
set_option maxRecDepth 100000 in
theorem rnamed_any (d : Nd) (ks : List Tree) (P : Nat → Nat → Prop) (w : World) (mv bv kv : Value) (hT : TreeAt w P (.node d ks) (mv, bv, kv)) : Calls Tryd.prog 79 #[.agg (ndC d mv bv kv)] w (RetB (.bool (namedB d)) w) := by
  have HN := Lib.hid (N1.start hT)
  obtain ⟨A1, n1, rfl, l1⟩ := hT.nod.ms.form
  obtain ⟨A2, n2, rfl, l2⟩ := hT.nod.bys.form
  have HO := Box.mk hT.nod.ok
  clear hT
  go_enter Tryd.func79, Tryd.ntmps79
  go_upto_region 1 with (fail)
  generalize w.alloc (.cells (ndC d _ _ _) 38) = W at HN ⊢
  obtain ⟨c0, c1, c2, c3, c4, c5, c6, c7, c8, c9, c10⟩ := HN.out.c
  simp only [Nat.zero_add] at c7
  clear c1 c2 c3 c4 c5 c6 c8 c9 c10
  have hns := HO.out.name
  go_cut [20] (fun x wx => ∃ q : Bool, x = .bool q ∧ Box (q = badB d) ∧ N1 w wx P d ks (.slice A1 d.ms.length n1) (.slice A2 d.bys.length n2) kv)
  case first =>
    by_cases hk : d.kind = 1
    · have E1 : Box (badB d = !(nameB d.name && !inGroups d.name)) := ⟨by unfold badB; simp [hk]⟩
      have HK := Box.mk hk
      rw [hk] at c0
      clear hk
      obtain ⟨nb, E2⟩ : ∃ z, Box (nameB d.name = z) := ⟨_, ⟨rfl⟩⟩
      obtain ⟨ig, E3⟩ : ∃ z, Box (inGroups d.name = z) := ⟨_, ⟨rfl⟩⟩
      cases nb
      · first | go_region_with (go_at_call 94; refine (rname_any d.name _ hns).mono ?_; rintro e w5 ⟨rfl, rfl⟩; rw [E2.out]) | fail
        all_goals
          go_wp2_with fail
          go_meet
          exact ⟨_, rfl, ⟨by rw [E1.out, E2.out]; rfl⟩, by first | exact HN.out | exact HN.out.drew⟩
      have hfg := findI_ge d.name groupsL 0
      rw [show groupsL.any (fun x => x.toList == d.name.toList) = inGroups d.name from rfl, E3.out] at hfg
      obtain ⟨fi, HFI⟩ : ∃ z, Box (findI d.name groupsL 0 = z) := ⟨_, ⟨rfl⟩⟩
      rw [HFI.out] at hfg
      cases ig
      all_goals
        have hfi := of_dec hfg
        simp only [if_true, Bool.false_eq_true, if_false] at hfi
        clear hfg
        go_region_held3 (fun w' => w'.cell? ⟨w.heap.size, 0, none⟩ = some (.int .i64 1) ∧ w'.cell? ⟨w.heap.size, 7, none⟩ = some (.string d.name)) (first | go_keep | exact ⟨c0, c7⟩ | exact ⟨cell_drew c0, cell_drew c7⟩ | exact ⟨cell_alloc' _ c0, cell_alloc' _ c7⟩ | exact ⟨cell_alloc' _ (cell_drew c0), cell_alloc' _ (cell_drew c7)⟩)
          (first
            | (go_at_call 94; refine (rname_any d.name _ hns).mono ?_; rintro e w5 ⟨rfl, rfl⟩; rw [E2.out])
            | (go_at_call 96; refine (rgroups_any _).mono ?_; rintro e w5 ⟨rfl, rfl⟩; have HGR := Box.mk (groups_at W); have HGRd := Box.mk (groups_at W.drew))
            | (go_at_call 95; refine (rfind_any _ _ _ groupsL d.name _ (by first | exact HGR.out | exact HGRd.out)).mono ?_; rintro e w5 ⟨rfl, rfl⟩; rw [HFI.out]))
        all_goals
          go_wp2_with fail
          go_meet
          exact ⟨_, rfl, ⟨by rw [E1.out, E2.out, E3.out]; simp [hfi]⟩, by first | exact HN.out | exact HN.out.drew | exact HN.out.next (bel1 _ _) | exact HN.out.drew.next (bel1 _ _) | exact (HN.out.next (bel1 _ _)).drew⟩
    · have E1 : Box (badB d = false) := ⟨by unfold badB; simp [hk]⟩
      have hk2 : (d.kind == 1) = false := by simpa using hk
      go_wp2_with fail
      go_region
      all_goals
        go_wp2_with fail
        go_meet
        exact ⟨_, rfl, ⟨by rw [E1.out]⟩, by first | exact HN.out | exact HN.out.drew⟩
  case rest =>
    clear HN c0 c7
    obtain ⟨q, rfl, HQ, hbx⟩ := hcut
    rename World => wd
    have HN := Lib.hid hbx; clear hbx
    cases q
    · have E0 : Box (namedB d = (d.ms.all vmatB && bysB d.bys)) := ⟨named_ok HQ.out.symm⟩
      have c8 := HN.out.c.2.2.2.2.2.2.2.2.1
      simp only [Nat.zero_add] at c8
      go_wp2_with fail
      go_loopw [3] (fun v wr => ∃ k : Nat, k ≤ d.ms.length ∧ v = .int .i64 (k : Nat) ∧ N1 w wr P d ks (.slice A1 d.ms.length n1) (.slice A2 d.bys.length n2) kv ∧ Box ((d.ms.drop k).all vmatB = d.ms.all vmatB)) (fun v _ => d.ms.length - (intOf v).toNat)
      case atStart => exact ⟨0, by omega, rfl, HN.out, ⟨rfl⟩⟩
      case round =>
        clear HN c8
        obtain ⟨k, hk, rfl, hN, HA⟩ := hrel
        have HN := Lib.hid hN; clear hN
        have c8 := HN.out.c.2.2.2.2.2.2.2.2.1
        simp only [Nat.zero_add] at c8
        by_cases hlt : k < d.ms.length
        · obtain ⟨x, hx⟩ : ∃ x, d.ms[k]? = some x := ⟨d.ms[k], List.getElem?_eq_getElem _⟩
          obtain ⟨b, off, rfl, hb, m0, m1, m2⟩ := Mats.at_ (w := wr) (base := wr.heap.size) (HN.out.nod.ms.seq) k x hx
          obtain ⟨s1, s2⟩ := HO.out.ms x (List.mem_of_getElem? hx)
          obtain ⟨x0, x1, x2⟩ := x
          have HD : Box (d.ms.drop k = (x0, x1, x2) :: d.ms.drop (k + 1)) := ⟨by
            rw [List.drop_eq_getElem_cons hlt, (List.getElem?_eq_some_iff.1 hx).2]⟩
          clear hx
          have hlt2 : (k : Int) < (d.ms.length : Int) := by omega
          go_wp2_with fail
          refine (rvmat_any _ _ _ _ s1 s2).mono ?_
          rintro e w5 ⟨rfl, hb5⟩
          have HN2 := Lib.hid (HN.out.next hb5)
          clear HN hb5 m0 m1 m2 c8
          obtain ⟨vb, E2⟩ : ∃ z, Box (vmatB (x0, x1, x2) = z) := ⟨_, ⟨rfl⟩⟩
          rw [E2.out]
          cases vb
          · go_wp2_with fail
            go_ret
            exact ⟨ret_bool (by rw [E0.out, ← HA.out, HD.out, List.all_cons, E2.out]; simp), HN2.out.below⟩
          · go_wp2_with fail
            go_roundw
            case rel => exact ⟨k + 1, by omega, by go_num, HN2.out, ⟨by rw [← HA.out, HD.out, List.all_cons, E2.out]; simp⟩⟩
            case measure => simp [intOf]; omega
        · have hlt2 : ¬ (k : Int) < (d.ms.length : Int) := by omega
          have E3 : Box (namedB d = bysB d.bys) := ⟨by rw [E0.out, ← HA.out, List.drop_eq_nil_of_le (by omega)]; simp⟩
          clear HA E0
          have c9 := HN.out.c.2.2.2.2.2.2.2.2.2.1
          simp only [Nat.zero_add] at c9
          go_wp2_with fail
          go_loopw [4] (fun v wr => ∃ k : Nat, k ≤ d.bys.length ∧ v = .int .i64 (k : Nat) ∧ N1 w wr P d ks (.slice A1 d.ms.length n1) (.slice A2 d.bys.length n2) kv ∧ Box (bysFrom (prevOf d.bys k) (d.bys.drop k) = bysB d.bys)) (fun v _ => d.bys.length - (intOf v).toNat)
          case atStart => exact ⟨0, by omega, rfl, HN.out, ⟨rfl⟩⟩
          case round =>
            clear HN c9
            obtain ⟨k, hk, rfl, hN, HA⟩ := hrel
            have HN := Lib.hid hN; clear hN
            have c9 := HN.out.c.2.2.2.2.2.2.2.2.2.1
            simp only [Nat.zero_add] at c9
            by_cases hlt : k < d.bys.length
            · obtain ⟨x, hx⟩ : ∃ x, d.bys[k]? = some x := ⟨d.bys[k], List.getElem?_eq_getElem _⟩
              obtain ⟨b, off, rfl, hb, m0⟩ := HN.out.nod.bys.at1 k (.string x) (by simp [hx])
              have sx := HO.out.bys x (List.mem_of_getElem? hx)
              have HD : Box (d.bys.drop k = x :: d.bys.drop (k + 1)) := ⟨by
                rw [List.drop_eq_getElem_cons hlt, (List.getElem?_eq_some_iff.1 hx).2]⟩
              have HX : Box (prevOf d.bys (k + 1) = some x) := ⟨by unfold prevOf; simpa using hx⟩
              have hlt2 : (k : Int) < (d.bys.length : Int) := by omega
              clear hx
              by_cases hk0 : k = 0
              · subst hk0
                simp only [Nat.add_zero] at m0
                obtain ⟨nb, E2⟩ : ∃ z, Box (nameB x = z) := ⟨_, ⟨rfl⟩⟩
                cases nb
                · have HNM : Box (∀ w', Calls Tryd.prog 94 #[.string x] w' fun e w'' => e = .returned (.bool false) ∧ w'' = w') := ⟨fun w' => by have h := rname_any x w' sx; rw [E2.out] at h; exact h.mono fun _ _ ⟨p, q⟩ => ⟨p, q.symm⟩⟩
                  go_wp2_with fail
                  go_quiet ((go_at_call 94; exact Calls.quiet_of_same (HNM.out _)))
                  go_wp2_with fail
                  go_ret
                  exact ⟨ret_bool (by rw [E3.out, ← HA.out, HD.out, bysFrom_no E2.out]), (HN.out.next (below_drewN _ _)).below⟩
                · have E4 : Box (bysFrom (some x) (d.bys.drop (0 + 1)) = bysB d.bys) := ⟨by rw [← HA.out, HD.out, show prevOf d.bys 0 = none from rfl, bysFrom_first E2.out]⟩
                  have HNM : Box (∀ w', Calls Tryd.prog 94 #[.string x] w' fun e w'' => e = .returned (.bool true) ∧ w'' = w') := ⟨fun w' => by have h := rname_any x w' sx; rw [E2.out] at h; exact h.mono fun _ _ ⟨p, q⟩ => ⟨p, q.symm⟩⟩
                  go_wp2_with fail
                  go_quiet ((go_at_call 94; exact Calls.quiet_of_same (HNM.out _)))
                  go_wp2_with fail
                  go_roundw
                  case rel => exact ⟨0 + 1, by omega, by go_num, HN.out.next (below_drewN _ _), ⟨by rw [HX.out]; exact E4.out⟩⟩
                  case measure => simp [intOf]; omega
              · obtain ⟨j, hkj⟩ : ∃ j, k = j + 1 := ⟨k - 1, by omega⟩
                obtain ⟨y, hy⟩ : ∃ y, d.bys[j]? = some y := ⟨d.bys[j]'(by omega), List.getElem?_eq_getElem _⟩
                obtain ⟨b', off', hA, hb', m1⟩ := HN.out.nod.bys.at1 j (.string y) (by simp [hy])
                cases hA
                have HY : Box (prevOf d.bys k = some y) := ⟨by rw [hkj]; unfold prevOf; simpa using hy⟩
                have hj : 0 < (k : Int) := by omega
                have hj0 : decide (0 < (k : Int)) = true := decide_eq_true (by omega)
                have hj4 : 0 < k := by omega
                have hj5 : decide (0 < k) = true := decide_eq_true (by omega)
                have hj1 : IntKind.i64.wrap ((k : Int) - 1) = (j : Int) := by rw [show (k : Int) - 1 = (j : Int) by omega]; exact W64_in (by omega) (by omega)
                have hj2 : (j : Int) < (d.bys.length : Int) := by omega
                have hj3 : j < d.bys.length := by omega
                clear hy hkj hk0
                obtain ⟨nb, E2⟩ : ∃ z, Box (nameB x = z) := ⟨_, ⟨rfl⟩⟩
                cases nb
                · have HNM : Box (∀ w', Calls Tryd.prog 94 #[.string x] w' fun e w'' => e = .returned (.bool false) ∧ w'' = w') := ⟨fun w' => by have h := rname_any x w' sx; rw [E2.out] at h; exact h.mono fun _ _ ⟨p, q⟩ => ⟨p, q.symm⟩⟩
                  go_wp2_with fail
                  go_quiet ((go_at_call 94; exact Calls.quiet_of_same (HNM.out _)))
                  go_wp2_with fail
                  go_ret
                  exact ⟨ret_bool (by rw [E3.out, ← HA.out, HD.out, bysFrom_no E2.out]), (HN.out.next (below_drewN _ _)).below⟩
                have HNM : Box (∀ w', Calls Tryd.prog 94 #[.string x] w' fun e w'' => e = .returned (.bool true) ∧ w'' = w') := ⟨fun w' => by have h := rname_any x w' sx; rw [E2.out] at h; exact h.mono fun _ _ ⟨p, q⟩ => ⟨p, q.symm⟩⟩
                obtain ⟨q, E5⟩ : ∃ z, Box (leS x y = z) := ⟨_, ⟨rfl⟩⟩
                have hq := E5.out
                unfold leS at hq
                cases q
                · have hq1 : Op.bytesLess x.toList y.toList = false := by simp at hq; exact hq.1
                  have hq2 : (x.toList == y.toList) = false := by simp at hq; simpa using hq.2
                  have E4 : Box (bysFrom (some x) (d.bys.drop (k + 1)) = bysB d.bys) := ⟨by rw [← HA.out, HD.out, HY.out, bysFrom_gt E2.out E5.out]⟩
                  clear hq
                  go_wp2_with fail
                  go_quiet ((go_at_call 94; exact Calls.quiet_of_same (HNM.out _)))
                  go_wp2_with fail
                  go_roundw
                  case rel => exact ⟨k + 1, by omega, by go_num, HN.out.next (below_drewN _ _), ⟨by rw [HX.out]; exact E4.out⟩⟩
                  case measure => simp [intOf]; omega
                · have hq1 : (Op.bytesLess x.toList y.toList || x.toList == y.toList) = true := hq
                  clear hq
                  go_wp2_with fail
                  go_quiet ((go_at_call 94; exact Calls.quiet_of_same (HNM.out _)))
                  go_wp2_with fail
                  go_ret
                  exact ⟨ret_bool (by rw [E3.out, ← HA.out, HD.out, HY.out, bysFrom_le E5.out]), (HN.out.next (below_drewN _ _)).below⟩
            · have hlt2 : ¬ (k : Int) < (d.bys.length : Int) := by omega
              go_wp2_with fail
              go_ret
              exact ⟨ret_bool (by rw [E3.out, ← HA.out, List.drop_eq_nil_of_le (by omega)]; rfl), HN.out.below⟩
    · have E0 : Box (namedB d = false) := ⟨named_bad HQ.out.symm⟩
      go_wp2_with fail
      go_ret
      exact ⟨ret_bool (by rw [E0.out]), HN.out.below⟩
end
section
open Go.RowKit FracM

theorem shaped_k {d : Nd} {n : Nat} (h : shapedB d n = true) (h1 : d.kind ≠ 1) (h2 : d.kind ≠ 2) : d.k = 0 := by
  rcases shape_cases h with ⟨k1, k2⟩ | ⟨k1, k2, k3, k4⟩ | ⟨k1, k2, k3, k4⟩ | ⟨k1, k2, k3, k4⟩
  · unfold shapedB at h
    rw [if_pos k1] at h
    simp at h
    omega
  · omega
  · omega
  · unfold shapedB at h
    rw [if_neg (by omega), if_neg (by omega), if_neg (by omega), if_pos k1] at h
    simp at h
    omega
set_option maxHeartbeats 2000000 in
set_option maxRecDepth 100000 in
theorem rcheck_any : ∀ t, ∀ (P : Nat → Nat → Prop) (w : World) (s : Sl), TreeAt w P t s → Calls Tryd.prog 63 #[.agg (ndC t.d s.1 s.2.1 s.2.2)] w (RetB (.int .i64 (chk t)) w) := by
  refine Tree.ind ?_
  intro d ks ih P w ⟨mv, bv, kv⟩ hT
  have IH := Box.mk ih
  have HN := Lib.hid (N1.start hT)
  obtain ⟨A1, n1, hmv, l1⟩ := hT.nod.ms.form
  obtain ⟨A2, n2, hbv, l2⟩ := hT.nod.bys.form
  obtain ⟨A3, n3, hkv, l3⟩ := hT.nod.kform
  subst hmv hbv hkv
  obtain ⟨fin, hfin⟩ : ∃ z, chk (.node d ks) = z := ⟨_, rfl⟩
  rw [hfin]
  rw [chk] at hfin
  have HF := Box.mk hfin
  clear hT ih hfin
  simp only [Tree.d]
  go_enter Tryd.func63, Tryd.ntmps63
  go_upto_region 1 with (fail)
  generalize w.alloc (.cells (ndC d _ _ _) 38) = W at HN ⊢
  obtain ⟨c0, c1, c2, c3, c4, c5, c6, c7, c8, c9, c10⟩ := HN.out.c
  simp only [Nat.zero_add] at c1 c2 c3 c4 c5 c6 c7 c8 c9 c10
  go_wp2_with fail
  refine (rshaped_any d ks P _ _ _ _ HN.out.nod.tree).mono ?_
  rintro e w1 ⟨rfl, hb⟩
  clear c0 c1 c2 c3 c4 c5 c6 c7 c8 c9 c10
  have HN2 := Lib.hid (HN.out.next hb); clear HN hb
  obtain ⟨c0, c1, c2, c3, c4, c5, c6, c7, c8, c9, c10⟩ := HN2.out.c
  simp only [Nat.zero_add] at c1 c2 c3 c4 c5 c6 c7 c8 c9 c10
  obtain ⟨sb, E1⟩ : ∃ z, Box (shapedB d ks.length = z) := ⟨_, ⟨rfl⟩⟩
  rw [E1.out]
  cases sb
  · go_wp2_with fail
    go_ret
    exact ⟨ret_int (by rw [← HF.out]; unfold chk1; rw [E1.out]; rfl), HN2.out.below⟩
  go_wp2_with fail
  refine (rnamed_any d ks P _ _ _ _ HN2.out.nod.tree).mono ?_
  rintro e w2 ⟨rfl, hb⟩
  clear c0 c1 c2 c3 c4 c5 c6 c7 c8 c9 c10
  have HN := Lib.hid (HN2.out.next hb); clear HN2 hb
  obtain ⟨c0, c1, c2, c3, c4, c5, c6, c7, c8, c9, c10⟩ := HN.out.c
  simp only [Nat.zero_add] at c1 c2 c3 c4 c5 c6 c7 c8 c9 c10
  obtain ⟨nb, E2⟩ : ∃ z, Box (namedB d = z) := ⟨_, ⟨rfl⟩⟩
  rw [E2.out]
  cases nb
  · go_wp2_with fail
    go_ret
    exact ⟨ret_int (by rw [← HF.out]; unfold chk1; rw [E1.out, E2.out]; rfl), HN.out.below⟩
  by_cases hbig : 8 < d.ms.length ∨ 8 < d.bys.length
  · have E3 : Box (chk1 d ks.length = 4) := ⟨by unfold chk1; rw [E1.out, E2.out, if_pos hbig]; rfl⟩
    by_cases hb1 : 8 < d.ms.length
    · go_wp2_with fail
      go_ret
      exact ⟨ret_int (by rw [← HF.out, E3.out]; rfl), HN.out.below⟩
    · have hb2 : 8 < d.bys.length := by omega
      go_wp2_with fail
      go_ret
      exact ⟨ret_int (by rw [← HF.out, E3.out]; rfl), HN.out.below⟩
  have hb1 : ¬ 8 < d.ms.length := by omega
  have hb2 : ¬ 8 < d.bys.length := by omega
  have HBG := Box.mk hbig
  clear hbig
  go_wp2_with fail
  refine (rwithin_any d ks P _ _ _ _ HN.out.nod.tree ⟨(shaped_kind E1.out).1, (shaped_kind E1.out).2.1⟩ (shaped_k E1.out)).mono ?_
  rintro e w3 ⟨rfl, hb⟩
  clear c0 c1 c2 c3 c4 c5 c6 c7 c8 c9 c10
  have HN2 := Lib.hid (HN.out.next hb); clear HN hb
  obtain ⟨rb, E3⟩ : ∃ z, Box (rangedB d = z) := ⟨_, ⟨rfl⟩⟩
  rw [E3.out]
  cases rb
  · go_wp2_with fail
    go_ret
    exact ⟨ret_int (by rw [← HF.out]; unfold chk1; rw [E1.out, E2.out, E3.out, if_neg HBG.out]; rfl), HN2.out.below⟩
  have HF2 : Box (chkL ks = fin) := ⟨by rw [← HF.out]; unfold chk1; rw [E1.out, E2.out, E3.out, if_neg HBG.out]; rfl⟩
  clear E1 E2 E3 HBG HF hb1 hb2
  go_wp2_with fail
  go_loopw [3] (fun v wr => ∃ k : Nat, k ≤ ks.length ∧ v = .int .i64 (k : Nat) ∧ N1 w wr P d ks (.slice A1 d.ms.length n1) (.slice A2 d.bys.length n2) (.slice A3 ks.length n3) ∧ Box (chkL (ks.drop k) = fin)) (fun v _ => ks.length - (intOf v).toNat)
  case atStart => exact ⟨0, by omega, rfl, HN2.out, HF2⟩
  case round =>
    clear HN2 HF2
    obtain ⟨k, hk, rfl, hN, HA⟩ := hrel
    have HN := Lib.hid hN; clear hN
    have c10 := (blk11z HN.out.blk).2.2.2.2.2.2.2.2.2.2
    by_cases hlt : k < ks.length
    · obtain ⟨x, hx⟩ : ∃ x, ks[k]? = some x := ⟨ks[k], List.getElem?_eq_getElem _⟩
      obtain ⟨e, es⟩ := x
      obtain ⟨b, off, mv', bv', kv', rfl, hb, hpb, ⟨k0, k1, k2, k3, k4, k5, k6, k7, k8, k9, k10⟩, hT'⟩ := HN.out.nod.kid k e es hx
      obtain ⟨B1, m1, rfl, -⟩ := hT'.nod.ms.form
      obtain ⟨B2, m2, rfl, -⟩ := hT'.nod.bys.form
      obtain ⟨B3, m3, rfl, -⟩ := hT'.nod.kform
      have HT' := Box.mk hT'
      have HX := Box.mk hx
      have hlt2 : (k : Int) < (ks.length : Int) := by omega
      have HD : Box (ks.drop k = .node e es :: ks.drop (k + 1)) := ⟨by
        rw [List.drop_eq_getElem_cons hlt, (List.getElem?_eq_some_iff.1 hx).2]⟩
      clear hT' hx
      go_wp2_with fail
      refine (IH.out (.node e es) (List.mem_of_getElem? HX.out) P _ (.slice B1 e.ms.length m1, .slice B2 e.bys.length m2, .slice B3 es.length m3) HT'.out).mono ?_
      rintro e1 w1 ⟨rfl, hb1⟩
      have HN4 := Lib.hid (HN.out.next hb1)
      clear HN hb1 k0 k1 k2 k3 k4 k5 k6 k7 k8 k9 k10 c10
      obtain ⟨q, E1⟩ : ∃ z, Box (chk (.node e es) = z) := ⟨_, ⟨rfl⟩⟩
      rw [E1.out]
      by_cases hq : q = 0
      · subst hq
        go_wp2_with fail
        go_roundw
        case rel => exact ⟨k + 1, by omega, by go_num, HN4.out, ⟨by rw [← HA.out, HD.out, chkL, if_pos E1.out]⟩⟩
        case measure => simp [intOf]; omega
      · have hq2 : (q != 0) = true := by simpa using hq
        have hq3 : (q == 0) = false := by simpa using hq
        go_wp2_with fail
        go_ret
        exact ⟨ret_int (by rw [← HA.out, HD.out, chkL, E1.out, if_neg hq]), HN4.out.below⟩
    · have hlt2 : ¬ (k : Int) < (ks.length : Int) := by omega
      go_wp2_with fail
      go_ret
      exact ⟨ret_int (by rw [← HA.out, List.drop_eq_nil_of_le (by omega), chkL]), HN.out.below⟩
set_option maxHeartbeats 1000000 in
theorem rpvalid_any (t : Tree) (P : Nat → Nat → Prop) (w : World) (s : Sl) (hT : TreeAt w P t s) (hn : nds t ≤ 1000000) (hd : dep t ≤ 1000000) : Calls Tryd.prog 47 #[.agg (ndC t.d s.1 s.2.1 s.2.2)] w (RetB (.int .i64 (validE t)) w) := by
  obtain ⟨d, ks⟩ := t
  obtain ⟨mv, bv, kv⟩ := s
  have HN := Lib.hid (N1.start hT)
  clear hT
  simp only [Tree.d]
  go_enter Tryd.func47, Tryd.ntmps47
  go_upto_region 1 with (fail)
  generalize w.alloc (.cells (ndC d _ _ _) 38) = W at HN ⊢
  obtain ⟨c0, c1, c2, c3, c4, c5, c6, c7, c8, c9, c10⟩ := HN.out.c
  simp only [Nat.zero_add] at c1 c2 c3 c4 c5 c6 c7 c8 c9 c10
  go_wp2_with fail
  refine (depth_any (.node d ks) P _ (mv, bv, kv) HN.out.nod.tree hd).mono ?_
  rintro e w1 ⟨rfl, hb⟩
  clear c0 c1 c2 c3 c4 c5 c6 c7 c8 c9 c10
  have HN2 := Lib.hid (HN.out.next hb); clear HN hb
  obtain ⟨c0, c1, c2, c3, c4, c5, c6, c7, c8, c9, c10⟩ := HN2.out.c
  simp only [Nat.zero_add] at c1 c2 c3 c4 c5 c6 c7 c8 c9 c10
  obtain ⟨q, E1⟩ : ∃ z, Box (dep (.node d ks) = z) := ⟨_, ⟨rfl⟩⟩
  rw [E1.out] at hd ⊢
  by_cases hq : 12 < q
  · have hq2 : 12 < (q : Int) := by omega
    go_wp2_with fail
    go_ret
    exact ⟨ret_int (by unfold validE fitB; rw [E1.out, decide_eq_false (show ¬ q ≤ 12 by omega)]; simp), HN2.out.below⟩
  have hq2 : ¬ 12 < (q : Int) := by omega
  go_wp2_with fail
  refine (nodes_any (.node d ks) P _ (mv, bv, kv) HN2.out.nod.tree hn).mono ?_
  rintro e w1' ⟨rfl, hb⟩
  clear c0 c1 c2 c3 c4 c5 c6 c7 c8 c9 c10
  have HN := Lib.hid (HN2.out.next hb); clear HN2 hb
  obtain ⟨c0, c1, c2, c3, c4, c5, c6, c7, c8, c9, c10⟩ := HN.out.c
  simp only [Nat.zero_add] at c1 c2 c3 c4 c5 c6 c7 c8 c9 c10
  obtain ⟨p, E2⟩ : ∃ z, Box (nds (.node d ks) = z) := ⟨_, ⟨rfl⟩⟩
  rw [E2.out] at hn ⊢
  by_cases hp : 200 < p
  · have hp2 : 200 < (p : Int) := by omega
    go_wp2_with fail
    go_ret
    exact ⟨ret_int (by unfold validE fitB; rw [E1.out, E2.out, decide_eq_false (show ¬ p ≤ 200 by omega)]; simp), HN.out.below⟩
  have hp2 : ¬ 200 < (p : Int) := by omega
  go_wp2_with fail
  refine (rcheck_any (.node d ks) P _ (mv, bv, kv) HN.out.nod.tree).mono ?_
  rintro e w2 ⟨rfl, hb⟩
  clear c0 c1 c2 c3 c4 c5 c6 c7 c8 c9 c10
  have HB := Lib.hid (HN.out.next hb).below; clear HN hb
  go_wp2_with fail
  go_ret
  exact ⟨ret_int (by unfold validE fitB; rw [E1.out, E2.out, decide_eq_true (show p ≤ 200 by omega), decide_eq_true (show q ≤ 12 by omega)]; rfl), HB.out⟩
end
section
open Go.RowKit FracM

def NumberOk (t : Tree) : Prop := ∀ (P : Nat → Nat → Prop) (w : World) (s : Sl), TreeAt w P t s → chk t = 0 → Calls Tryd.prog 54 #[.agg (ndC t.d s.1 s.2.1 s.2.2)] w (RetB (.bool (rlB t)) w)
set_option maxHeartbeats 2000000 in
set_option maxRecDepth 100000 in
theorem number_any : ∀ t, NumberOk t := by
  refine Tree.ind ?_
  intro d ks ih P w ⟨mv, bv, kv⟩ hT hc
  obtain ⟨hc1, hck⟩ := chk_ok hc
  have IH := Box.mk ih
  have CK := Box.mk hck
  have HN := Lib.hid (N1.start hT)
  obtain ⟨A1, n1, hmv, l1⟩ := hT.nod.ms.form
  obtain ⟨A2, n2, hbv, l2⟩ := hT.nod.bys.form
  obtain ⟨A3, n3, hkv, l3⟩ := hT.nod.kform
  subst hmv hbv hkv
  obtain ⟨fin, hfin⟩ : ∃ z, rlB (.node d ks) = z := ⟨_, rfl⟩
  rw [hfin]
  rw [rlB] at hfin
  have hsh := shape_cases (chk1_shape hc1)
  clear hT ih hck hc1 hc
  simp only [Tree.d]
  go_enter Tryd.func54, Tryd.ntmps54
  go_upto_region 1 with (fail)
  generalize w.alloc (.cells (ndC d _ _ _) 38) = W at HN ⊢
  have c0 := HN.out.c.1
  have c10 := HN.out.c.2.2.2.2.2.2.2.2.2.2
  simp only [Nat.zero_add] at c10
  rcases hsh with ⟨hk, hl⟩ | ⟨hk, hl, -, -⟩ | ⟨hk, hl, -, -⟩ | ⟨hk, hl, -, -⟩
  · rw [hk] at c0
    rw [if_pos hk] at hfin
    have HF := Box.mk hfin
    clear hfin hk
    go_wp2_with fail
    go_ret
    exact ⟨ret_bool HF.out, HN.out.below⟩
  · rw [hk] at c0
    rw [if_neg (by omega), if_neg (by omega)] at hfin
    have HF := Box.mk hfin
    clear hfin hk
    go_wp2_with fail
    go_ret
    exact ⟨ret_bool HF.out, HN.out.below⟩
  · rw [hk] at c0
    rw [if_neg (by omega), if_neg (by omega)] at hfin
    have HF := Box.mk hfin
    clear hfin hk
    go_wp2_with fail
    go_ret
    exact ⟨ret_bool HF.out, HN.out.below⟩
  · rw [hk] at c0
    rw [if_neg (by omega), if_pos hk] at hfin
    obtain ⟨e, es, b, off, B1, m1, B2, m2, B3, m3, hx, rfl, hb, hpb, h11, hT'⟩ := kid2 HN.out.nod 0 (by omega)
    obtain ⟨e', es', b', off', B1', m1', B2', m2', B3', m3', hx', hA, hb', hpb', h11', hT2⟩ := kid2 HN.out.nod 1 (by omega)
    cases hA
    have h2 := two_of hl hx hx'
    obtain ⟨k0, k1, k2, k3, k4, k5, k6, k7, k8, k9, k10⟩ := h11
    obtain ⟨j0, j1, j2, j3, j4, j5, j6, j7, j8, j9, j10⟩ := h11'
    simp only [Nat.zero_mul, Nat.one_mul, Nat.add_zero] at k0 k1 k2 k3 k4 k5 k6 k7 k8 k9 k10 j0 j1 j2 j3 j4 j5 j6 j7 j8 j9 j10
    have HF : Box ((rlB (.node e es) && rlB (.node e' es')) = fin) := ⟨by rw [← hfin, h2, rlL, rlL, rlL]; simp⟩
    have HT1 := Box.mk hT'
    have HT2 := Box.mk hT2
    have M1 : Box (Tree.node e es ∈ ks) := ⟨List.mem_of_getElem? hx⟩
    have M2 : Box (Tree.node e' es' ∈ ks) := ⟨List.mem_of_getElem? hx'⟩
    clear hfin hk hT' hT2 hx hx' h2
    have hl0 : (0 : Nat) < ks.length := by omega
    have hl1 : (1 : Nat) < ks.length := by omega
    go_wp2_with fail
    refine (IH.out _ M1.out P _ (.slice B1 e.ms.length m1, .slice B2 e.bys.length m2, .slice B3 es.length m3) HT1.out (CK.out _ M1.out)).mono ?_
    rintro e1 w1 ⟨rfl, hb1⟩
    have HN2 := Lib.hid (HN.out.next hb1)
    have HT3 := Box.mk (HT2.out.belo hb1)
    obtain ⟨q, E1⟩ : ∃ z, Box (rlB (.node e es) = z) := ⟨_, ⟨rfl⟩⟩
    rw [E1.out]
    clear HN c0 c10 k0 k1 k2 k3 k4 k5 k6 k7 k8 k9 k10
    cases q
    · clear hb1
      go_wp2_with fail
      go_ret
      exact ⟨ret_bool (by rw [← HF.out, E1.out]; rfl), HN2.out.below⟩
    · have c10 := HN2.out.c.2.2.2.2.2.2.2.2.2.2
      simp only [Nat.zero_add] at c10
      have p0 := bat hb1 hb' j0
      have p1 := bat hb1 hb' j1
      have p2 := bat hb1 hb' j2
      have p3 := bat hb1 hb' j3
      have p4 := bat hb1 hb' j4
      have p5 := bat hb1 hb' j5
      have p6 := bat hb1 hb' j6
      have p7 := bat hb1 hb' j7
      have p8 := bat hb1 hb' j8
      have p9 := bat hb1 hb' j9
      have p10 := bat hb1 hb' j10
      clear hb1 j0 j1 j2 j3 j4 j5 j6 j7 j8 j9 j10
      go_wp2_with fail
      refine (IH.out _ M2.out P _ (.slice B1' e'.ms.length m1', .slice B2' e'.bys.length m2', .slice B3' es'.length m3') HT3.out (CK.out _ M2.out)).mono ?_
      rintro e1 w2 ⟨rfl, hb1⟩
      have HN3 := Lib.hid (HN2.out.next hb1)
      clear hb1 p0 p1 p2 p3 p4 p5 p6 p7 p8 p9 p10 HN2
      go_wp2_with fail
      go_ret
      exact ⟨ret_bool (by rw [← HF.out, E1.out]; rfl), HN3.out.below⟩
end
section
open Go.RowKit FracM

def ByOk (t : Tree) : Prop := ∀ (P : Nat → Nat → Prop) (w : World) (s : Sl), TreeAt w P t s → chk t = 0 → rlB t = false → Calls Tryd.prog 55 #[.agg (ndC t.d s.1 s.2.1 s.2.2)] w (RetStrs (rw1 t) w)
set_option maxHeartbeats 2000000 in
set_option maxRecDepth 100000 in
theorem rby_any : ∀ t, ByOk t := by
  refine Tree.ind ?_
  intro d ks ih P w ⟨mv, bv, kv⟩ hT hc hr
  obtain ⟨hc1, hck⟩ := chk_ok hc
  have IH := Box.mk ih
  have CK := Box.mk hck
  have HN := Lib.hid (N1.start hT)
  obtain ⟨A1, n1, hmv, l1⟩ := hT.nod.ms.form
  obtain ⟨A2, n2, hbv, l2⟩ := hT.nod.bys.form
  obtain ⟨A3, n3, hkv, l3⟩ := hT.nod.kform
  subst hmv hbv hkv
  have hby8 : d.bys.length ≤ 8 := by
    unfold chk1 at hc1
    split at hc1
    · cases hc1
    split at hc1
    · cases hc1
    split at hc1
    · cases hc1
    omega
  obtain ⟨fin, hfin⟩ : ∃ z, rw1 (.node d ks) = z := ⟨_, rfl⟩
  rw [hfin]
  rw [rw1] at hfin
  rw [rlB] at hr
  have hsh := shape_cases (chk1_shape hc1)
  clear hT ih hck hc1 hc
  simp only [Tree.d]
  go_enter Tryd.func55, Tryd.ntmps55
  go_upto_region 1 with (fail)
  generalize w.alloc (.cells (ndC d _ _ _) 38) = W at HN ⊢
  have c0 := HN.out.c.1
  have c9 := HN.out.c.2.2.2.2.2.2.2.2.2.1
  have c10 := HN.out.c.2.2.2.2.2.2.2.2.2.2
  simp only [Nat.zero_add] at c10 c9
  rcases hsh with ⟨hk, hl⟩ | ⟨hk, hl, -, -⟩ | ⟨hk, hl, -, -⟩ | ⟨hk, hl, -, -⟩
  · rw [if_pos hk] at hr; cases hr
  · rw [hk] at c0
    rw [if_pos hk] at hfin
    have HF := Box.mk hfin
    clear hfin hk hr
    go_wp2_with fail
    go_ret
    exact ⟨_, 1, 1, rfl, by rw [← HF.out]; rfl, by rw [← HF.out]; exact star_at _, HN.out.below.alloc HN.out.below.size _⟩
  · rw [hk] at c0
    rw [if_neg (by omega), if_pos hk] at hfin
    have HF := Box.mk hfin
    clear hfin hk hr
    go_wp2_with fail
    go_ret
    exact ⟨A2, _, n2, rfl, by rw [← HF.out], by rw [← HF.out]; exact HN.out.nod.bys.mono fun _ _ _ _ => trivial, HN.out.below⟩
  · rw [hk] at c0
    rw [if_neg (by omega), if_neg (by omega)] at hfin
    rw [if_neg (by omega), if_pos hk] at hr
    obtain ⟨e, es, b, off, B1, m1, B2, m2, B3, m3, hx, rfl, hb, hpb, h11, hT'⟩ := kid2 HN.out.nod 0 (by omega)
    obtain ⟨e', es', b', off', B1', m1', B2', m2', B3', m3', hx', hA, hb', hpb', h11', hT2⟩ := kid2 HN.out.nod 1 (by omega)
    cases hA
    have h2 := two_of hl hx hx'
    rw [h2, rlL, rlL, rlL, Bool.and_true] at hr
    rw [h2, rwL, rwL, rwL] at hfin
    obtain ⟨k0, k1, k2, k3, k4, k5, k6, k7, k8, k9, k10⟩ := h11
    obtain ⟨j0, j1, j2, j3, j4, j5, j6, j7, j8, j9, j10⟩ := h11'
    simp only [Nat.zero_mul, Nat.one_mul, Nat.add_zero] at k0 k1 k2 k3 k4 k5 k6 k7 k8 k9 k10 j0 j1 j2 j3 j4 j5 j6 j7 j8 j9 j10
    have HF := Box.mk hfin
    have HR := Box.mk hr
    have HT1 := Box.mk hT'
    have HT2 := Box.mk hT2
    have M1 : Box (Tree.node e es ∈ ks) := ⟨List.mem_of_getElem? hx⟩
    have M2 : Box (Tree.node e' es' ∈ ks) := ⟨List.mem_of_getElem? hx'⟩
    have HKD := Box.mk hk
    clear hfin hk hT' hT2 hx hx' h2 hr
    have hl0 : (0 : Nat) < ks.length := by omega
    have hl1 : (1 : Nat) < ks.length := by omega
    go_wp2_with fail
    refine (number_any _ P _ (.slice B1 e.ms.length m1, .slice B2 e.bys.length m2, .slice B3 es.length m3) HT1.out (CK.out _ M1.out)).mono ?_
    rintro e1 w1 ⟨rfl, hb1⟩
    have HN2 := Lib.hid (HN.out.next hb1)
    have HT4 := Box.mk (HT1.out.belo hb1)
    have HT3 := Box.mk (HT2.out.belo hb1)
    obtain ⟨q, E1⟩ : ∃ z, Box (rlB (.node e es) = z) := ⟨_, ⟨rfl⟩⟩
    rw [E1.out]
    clear c0 c9 c10
    have c10 := HN2.out.c.2.2.2.2.2.2.2.2.2.2
    have c0 := N1.kindAt HN2.out HKD.out
    simp only [Nat.zero_add] at c10
    cases q
    · have p0 := bat hb1 hb k0
      have p1 := bat hb1 hb k1
      have p2 := bat hb1 hb k2
      have p3 := bat hb1 hb k3
      have p4 := bat hb1 hb k4
      have p5 := bat hb1 hb k5
      have p6 := bat hb1 hb k6
      have p7 := bat hb1 hb k7
      have p8 := bat hb1 hb k8
      have p9 := bat hb1 hb k9
      have p10 := bat hb1 hb k10
      clear hb1 j0 j1 j2 j3 j4 j5 j6 j7 j8 j9 j10 k0 k1 k2 k3 k4 k5 k6 k7 k8 k9 k10 HN
      go_wp2_with fail
      refine (IH.out _ M1.out P _ (.slice B1 e.ms.length m1, .slice B2 e.bys.length m2, .slice B3 es.length m3) HT4.out (CK.out _ M1.out) E1.out).mono ?_
      intro e1 w2 hs
      have HS := Box.mk ((hs.after HN2.out.below).of (l' := fin) (by rw [← HF.out, E1.out]; rfl))
      obtain ⟨B, n, c, rfl, -⟩ := id hs
      clear hs HN2 c10 p0 p1 p2 p3 p4 p5 p6 p7 p8 p9 p10
      go_wp2_with fail
      go_ret
      exact HS.out
    · have p0 := bat hb1 hb' j0
      have p1 := bat hb1 hb' j1
      have p2 := bat hb1 hb' j2
      have p3 := bat hb1 hb' j3
      have p4 := bat hb1 hb' j4
      have p5 := bat hb1 hb' j5
      have p6 := bat hb1 hb' j6
      have p7 := bat hb1 hb' j7
      have p8 := bat hb1 hb' j8
      have p9 := bat hb1 hb' j9
      have p10 := bat hb1 hb' j10
      have E2 : Box (rlB (.node e' es') = false) := ⟨by have := HR.out; rw [E1.out] at this; simpa using this⟩
      clear hb1 j0 j1 j2 j3 j4 j5 j6 j7 j8 j9 j10 k0 k1 k2 k3 k4 k5 k6 k7 k8 k9 k10 HN
      go_wp2_with fail
      refine (IH.out _ M2.out P _ (.slice B1' e'.ms.length m1', .slice B2' e'.bys.length m2', .slice B3' es'.length m3') HT3.out (CK.out _ M2.out) E2.out).mono ?_
      intro e1 w2 hs
      have HS := Box.mk ((hs.after HN2.out.below).of (l' := fin) (by rw [← HF.out, E1.out, E2.out]; rfl))
      obtain ⟨B, n, c, rfl, -⟩ := id hs
      clear hs HN2 c10 p0 p1 p2 p3 p4 p5 p6 p7 p8 p9 p10
      go_wp2_with fail
      go_ret
      exact HS.out
end
end Go.Proofs.YtgomgoacponbkaaDoor
