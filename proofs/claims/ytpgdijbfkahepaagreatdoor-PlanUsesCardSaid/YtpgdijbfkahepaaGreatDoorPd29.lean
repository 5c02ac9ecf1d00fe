/- Contracts, packed: Sg Sk. -/
import Derived.Test.YtpgdijbfkahepaaGreatDoorPd28
set_option linter.unusedVariables false
set_option linter.unusedSimpArgs false
namespace Go.Proofs.YtpgdijbfkahepaaGreatDoor
section
open Go.RowKit FracM
theorem of_dec {p : Prop} [Decidable p] {b : Bool} (h : decide p = b) : if b then p else ¬ p := by cases b <;> simp_all
theorem shaped_fk {d : Nd} {n : Nat} (h : shapedB d n = true) : (d.kind = 0 ∧ d.fn = 0 ∧ n = 0) ∨ (d.kind = 1 ∧ n = 0 ∧ 0 ≤ d.fn ∧ d.fn ≤ 7) ∨ (d.kind = 2 ∧ n = 1 ∧ 0 ≤ d.fn ∧ d.fn ≤ 4) ∨ (d.kind = 3 ∧ n = 2 ∧ 0 ≤ d.fn ∧ d.fn ≤ 3) := by
 rcases shape_cases h with ⟨h1, h2⟩ | ⟨h1, h2, h3, h4⟩ | ⟨h1, h2, h3, h4⟩ | ⟨h1, h2, h3, h4⟩
 ·left
  unfold shapedB at h
  rw [if_pos h1] at h
  simp at h
  exact ⟨h1, by omega, h2⟩
 ·exact .inr (.inl ⟨h1, h2, h3, h4⟩)
 ·exact .inr (.inr (.inl ⟨h1, h2, h3, h4⟩))
 ·exact .inr (.inr (.inr ⟨h1, h2, h3, h4⟩))
theorem shaped_kind {d : Nd} {n : Nat} (h : shapedB d n = true) : 0 ≤ d.kind ∧ d.kind ≤ 3 ∧ 0 ≤ d.fn := by
 rcases shape_cases h with ⟨h1, h2⟩ | ⟨h1, h2, h3, h4⟩ | ⟨h1, h2, h3, h4⟩ | ⟨h1, h2, h3, h4⟩
 ·refine ⟨by omega, by omega, ?_⟩
  unfold shapedB at h
  rw [if_pos h1] at h
  simp at h
  omega
 all_goals exact ⟨by omega, by omega, h3⟩
set_option maxHeartbeats 4000000 in
set_option maxRecDepth 100000 in
theorem rshaped_any (d : Nd) (ks : List Tree) (P : Nat → Nat → Prop) (w : World) (mv bv kv : Value) (hT : TreeAt w P (.node d ks) (mv, bv, kv)) : Calls Tryz.prog 47 #[.agg (ndC d mv bv kv)] w (RetB (.bool (shapedB d ks.length)) w) := by
 have HN := Lib.hid (N1.start hT)
 obtain ⟨A1, n1, rfl, l1⟩ := hT.nod.ms.form
 obtain ⟨A2, n2, rfl, l2⟩ := hT.nod.bys.form
 obtain ⟨A3, n3, rfl, l3⟩ := hT.nod.kform
 have HO := Box.mk hT.nod.ok
 clear hT
 go_enter Tryz.func47, Tryz.ntmps47
 go_upto_region 1 with (fail)
 generalize w.alloc (.cells (ndC d _ _ _) 35) = W at HN ⊢
 obtain ⟨c0, c1, c2, c3, c4, c5, c6, c7, c8, c9, c10⟩ := HN.out.c
 simp only [Nat.zero_add] at c1 c2 c3 c4 c5 c6 c7 c8 c9 c10
 by_cases hb1 : d.kind < 0
 ·have E : Box (shapedB d ks.length = false) := ⟨by rw [Bool.eq_false_iff]; intro h; have := shaped_kind h; omega⟩
  go_wp2_with fail
  go_ret
  exact ⟨ret_bool (by rw [E.out]), HN.out.below⟩
 by_cases hb2 : 3 < d.kind
 ·have E : Box (shapedB d ks.length = false) := ⟨by rw [Bool.eq_false_iff]; intro h; have := shaped_kind h; omega⟩
  go_wp2_with fail
  go_ret
  exact ⟨ret_bool (by rw [E.out]), HN.out.below⟩
 by_cases hb3 : d.fn < 0
 ·have E : Box (shapedB d ks.length = false) := ⟨by rw [Bool.eq_false_iff]; intro h; have := shaped_kind h; omega⟩
  go_wp2_with fail
  go_ret
  exact ⟨ret_bool (by rw [E.out]), HN.out.below⟩
 obtain ⟨⟨-, -, -, -, -, ⟨b1, b2⟩, ⟨b3, b4⟩⟩, -, -, -⟩ := HO.out
 have HKD : Box (d.kind = 0 ∨ d.kind = 1 ∨ d.kind = 2 ∨ d.kind = 3) := ⟨by omega⟩
 have HF3 := Box.mk hb3
 go_upto_region 5 with (fail)
 have HN5 := Lib.hid (HN.out.next (bel2 W (.cells #[.int .i64 1, .int .i64 8, .int .i64 5, .int .i64 4] 3) (.cells #[.int .i64 0, .int .i64 0, .int .i64 1, .int .i64 2] 3)))
 have HL1 : Hid (Blk ((W.alloc (.cells #[.int .i64 1, .int .i64 8, .int .i64 5, .int .i64 4] 3)).alloc (.cells #[.int .i64 0, .int .i64 0, .int .i64 1, .int .i64 2] 3)) W.heap.size 3 #[.int .i64 1, .int .i64 8, .int .i64 5, .int .i64 4]) := (Blk.new W _ _).alloc _
 have HL2 : Hid (Blk ((W.alloc (.cells #[.int .i64 1, .int .i64 8, .int .i64 5, .int .i64 4] 3)).alloc (.cells #[.int .i64 0, .int .i64 0, .int .i64 1, .int .i64 2] 3)) (W.heap.size + 1) 3 #[.int .i64 0, .int .i64 0, .int .i64 1, .int .i64 2]) := Blk.newAt _ _ (by simp)
 clear HN c0 c1 c2 c3 c4 c5 c6 c7 c8 c9 c10
 generalize W.heap.size = g at *
 generalize (W.alloc (.cells #[.int .i64 1, .int .i64 8, .int .i64 5, .int .i64 4] 3)).alloc (.cells #[.int .i64 0, .int .i64 0, .int .i64 1, .int .i64 2] 3) = W5 at *
 obtain ⟨c0, c1, c2, c3, c4, c5, c6, c7, c8, c9, c10⟩ := HN5.out.c
 simp only [Nat.zero_add] at c1 c2 c3 c4 c5 c6 c7 c8 c9 c10
 by_cases hk0 : d.kind = 0
 ·have q1 : W5.cell? ⟨g, 0, none⟩ = some (.int .i64 1) := by have := HL1.out; unfold Blk at this; simp [World.cell?, this]
  have q2 : W5.cell? ⟨g + 1, 0, none⟩ = some (.int .i64 0) := by have := HL2.out; unfold Blk at this; simp [World.cell?, this]
  rw [hk0] at c0
  by_cases hs : 1 ≤ d.fn ∨ ks.length ≠ 0
  ·have E : Box (shapedB d ks.length = false) := ⟨by
    rw [Bool.eq_false_iff]; intro h
    have := shaped_fk h
    omega⟩
   clear hk0 hb1 hb2 hb3
   by_cases hs1 : 1 ≤ d.fn
   ·go_region
    all_goals
     go_wp2_with fail
     go_ret
     exact ⟨ret_bool (by rw [E.out]), by first | exact HN5.out.below | exact HN5.out.drew.below⟩
   ·have hs2 : (((ks.length : Nat) : Int) != 0) = true := bne_iff_ne.2 (by omega)
    go_region
    all_goals
     go_wp2_with fail
     go_ret
     exact ⟨ret_bool (by rw [E.out]), by first | exact HN5.out.below | exact HN5.out.drew.below⟩
  ·have hs1 : ¬ 1 ≤ d.fn := by omega
   have hs2 : (((ks.length : Nat) : Int) != 0) = false := by rw [bne_eq_false_iff_eq]; omega
   have hs3 : ks.length = 0 := by omega
   have HS3 := Box.mk hs3
   have HK0 := Box.mk hk0
   clear hk0 hb1 hb2 hb3 hs hs3
   go_region
   all_goals
    go_wp2_with (go_at_call 65; refine (rvalid_any _ _ _ b1 b2 b3 b4).mono ?_; rintro e w' ⟨rfl, hb1⟩; have HB1 := (by first | exact Lib.hid (HN5.out.next hb1) | exact Lib.hid (HN5.out.drew.next hb1)); clear hb1; obtain ⟨c0, c1, c2, c3, c4, c5, c6, c7, c8, c9, c10⟩ := HB1.out.c; simp only [Nat.zero_add] at c1 c2 c3 c4 c5 c6 c7 c8 c9 c10; rw [HK0.out] at c0)
   all_goals
    go_ret
    refine ⟨ret_bool ?_, by first | exact HN5.out.below | exact HN5.out.drew.below | exact HB1.out.below⟩
    have hk := HK0.out
    have hn := HS3.out
    have hf := HF3.out
    unfold shapedB noSelB noNumB
    simp_all [len0]
    try first | done | (intros; omega) | (intros; intro hcc; simp_all)
 by_cases hk1 : d.kind = 1
 ·have q1 : W5.cell? ⟨g, 1, none⟩ = some (.int .i64 8) := by have := HL1.out; unfold Blk at this; simp [World.cell?, this]
  have q2 : W5.cell? ⟨g + 1, 1, none⟩ = some (.int .i64 0) := by have := HL2.out; unfold Blk at this; simp [World.cell?, this]
  rw [hk1] at c0
  by_cases hs : 8 ≤ d.fn ∨ ks.length ≠ 0
  ·have E : Box (shapedB d ks.length = false) := ⟨by
    rw [Bool.eq_false_iff]; intro h
    have := shaped_fk h
    omega⟩
   clear hk1 hb1 hb2 hb3
   by_cases hs1 : 8 ≤ d.fn
   ·go_region
    all_goals
     go_wp2_with fail
     go_ret
     exact ⟨ret_bool (by rw [E.out]), by first | exact HN5.out.below | exact HN5.out.drew.below⟩
   ·have hs2 : (((ks.length : Nat) : Int) != 0) = true := bne_iff_ne.2 (by omega)
    go_region
    all_goals
     go_wp2_with fail
     go_ret
     exact ⟨ret_bool (by rw [E.out]), by first | exact HN5.out.below | exact HN5.out.drew.below⟩
  ·have hs1 : ¬ 8 ≤ d.fn := by omega
   have hs2 : (((ks.length : Nat) : Int) != 0) = false := by rw [bne_eq_false_iff_eq]; omega
   have hs3 : ks.length = 0 := by omega
   have HS3 := Box.mk hs3
   have HK0 := Box.mk hk1
   clear hk1 hb1 hb2 hb3 hs hs3
   go_region
   all_goals
    go_wp2_with (go_at_call 65; refine (rvalid_any _ _ _ b1 b2 b3 b4).mono ?_; rintro e w' ⟨rfl, hb1⟩; have HB1 := (by first | exact Lib.hid (HN5.out.next hb1) | exact Lib.hid (HN5.out.drew.next hb1)); clear hb1; obtain ⟨c0, c1, c2, c3, c4, c5, c6, c7, c8, c9, c10⟩ := HB1.out.c; simp only [Nat.zero_add] at c1 c2 c3 c4 c5 c6 c7 c8 c9 c10; rw [HK0.out] at c0)
   all_goals
    go_ret
    refine ⟨ret_bool ?_, by first | exact HN5.out.below | exact HN5.out.drew.below | exact HB1.out.below⟩
    have hk := HK0.out
    have hn := HS3.out
    have hf := HF3.out
    unfold shapedB noSelB noNumB
    simp_all [len0]
    try first | done | (intros; omega) | (intros; intro hcc; simp_all)
 by_cases hk2 : d.kind = 2
 ·have q1 : W5.cell? ⟨g, 2, none⟩ = some (.int .i64 5) := by have := HL1.out; unfold Blk at this; simp [World.cell?, this]
  have q2 : W5.cell? ⟨g + 1, 2, none⟩ = some (.int .i64 1) := by have := HL2.out; unfold Blk at this; simp [World.cell?, this]
  rw [hk2] at c0
  by_cases hs : 5 ≤ d.fn ∨ ks.length ≠ 1
  ·have E : Box (shapedB d ks.length = false) := ⟨by
    rw [Bool.eq_false_iff]; intro h
    have := shaped_fk h
    omega⟩
   clear hk2 hb1 hb2 hb3
   by_cases hs1 : 5 ≤ d.fn
   ·go_region
    all_goals
     go_wp2_with fail
     go_ret
     exact ⟨ret_bool (by rw [E.out]), by first | exact HN5.out.below | exact HN5.out.drew.below⟩
   ·have hs2 : (((ks.length : Nat) : Int) != 1) = true := bne_iff_ne.2 (by omega)
    go_region
    all_goals
     go_wp2_with fail
     go_ret
     exact ⟨ret_bool (by rw [E.out]), by first | exact HN5.out.below | exact HN5.out.drew.below⟩
  ·have hs1 : ¬ 5 ≤ d.fn := by omega
   have hs2 : (((ks.length : Nat) : Int) != 1) = false := by rw [bne_eq_false_iff_eq]; omega
   have hs3 : ks.length = 1 := by omega
   have HS3 := Box.mk hs3
   have HK0 := Box.mk hk2
   clear hk2 hb1 hb2 hb3 hs hs3
   go_region
   all_goals
    go_wp2_with (go_at_call 65; refine (rvalid_any _ _ _ b1 b2 b3 b4).mono ?_; rintro e w' ⟨rfl, hb1⟩; have HB1 := (by first | exact Lib.hid (HN5.out.next hb1) | exact Lib.hid (HN5.out.drew.next hb1)); clear hb1; obtain ⟨c0, c1, c2, c3, c4, c5, c6, c7, c8, c9, c10⟩ := HB1.out.c; simp only [Nat.zero_add] at c1 c2 c3 c4 c5 c6 c7 c8 c9 c10; rw [HK0.out] at c0)
   all_goals
    go_ret
    refine ⟨ret_bool ?_, by first | exact HN5.out.below | exact HN5.out.drew.below | exact HB1.out.below⟩
    have hk := HK0.out
    have hn := HS3.out
    have hf := HF3.out
    unfold shapedB noSelB noNumB
    simp_all [len0]
    try first | done | (intros; omega) | (intros; intro hcc; simp_all)
 by_cases hk3 : d.kind = 3
 ·have q1 : W5.cell? ⟨g, 3, none⟩ = some (.int .i64 4) := by have := HL1.out; unfold Blk at this; simp [World.cell?, this]
  have q2 : W5.cell? ⟨g + 1, 3, none⟩ = some (.int .i64 2) := by have := HL2.out; unfold Blk at this; simp [World.cell?, this]
  rw [hk3] at c0
  by_cases hs : 4 ≤ d.fn ∨ ks.length ≠ 2
  ·have E : Box (shapedB d ks.length = false) := ⟨by
    rw [Bool.eq_false_iff]; intro h
    have := shaped_fk h
    omega⟩
   clear hk3 hb1 hb2 hb3
   by_cases hs1 : 4 ≤ d.fn
   ·go_region
    all_goals
     go_wp2_with fail
     go_ret
     exact ⟨ret_bool (by rw [E.out]), by first | exact HN5.out.below | exact HN5.out.drew.below⟩
   ·have hs2 : (((ks.length : Nat) : Int) != 2) = true := bne_iff_ne.2 (by omega)
    go_region
    all_goals
     go_wp2_with fail
     go_ret
     exact ⟨ret_bool (by rw [E.out]), by first | exact HN5.out.below | exact HN5.out.drew.below⟩
  ·have hs1 : ¬ 4 ≤ d.fn := by omega
   have hs2 : (((ks.length : Nat) : Int) != 2) = false := by rw [bne_eq_false_iff_eq]; omega
   have hs3 : ks.length = 2 := by omega
   have HS3 := Box.mk hs3
   have HK0 := Box.mk hk3
   clear hk3 hb1 hb2 hb3 hs hs3
   go_region
   all_goals
    go_wp2_with (go_at_call 65; refine (rvalid_any _ _ _ b1 b2 b3 b4).mono ?_; rintro e w' ⟨rfl, hb1⟩; have HB1 := (by first | exact Lib.hid (HN5.out.next hb1) | exact Lib.hid (HN5.out.drew.next hb1)); clear hb1; obtain ⟨c0, c1, c2, c3, c4, c5, c6, c7, c8, c9, c10⟩ := HB1.out.c; simp only [Nat.zero_add] at c1 c2 c3 c4 c5 c6 c7 c8 c9 c10; rw [HK0.out] at c0)
   all_goals
    go_ret
    refine ⟨ret_bool ?_, by first | exact HN5.out.below | exact HN5.out.drew.below | exact HB1.out.below⟩
    have hk := HK0.out
    have hn := HS3.out
    have hf := HF3.out
    unfold shapedB noSelB noNumB
    simp_all [len0]
    try first | done | (intros; omega) | (intros; intro hcc; simp_all)
 exfalso
 rcases HKD.out with h | h | h | h <;> omega
end
section
open Go.RowKit FracM
set_option maxHeartbeats 4000000 in
set_option maxRecDepth 100000 in
theorem rnamed_any (d : Nd) (ks : List Tree) (P : Nat → Nat → Prop) (w : World) (mv bv kv : Value) (hT : TreeAt w P (.node d ks) (mv, bv, kv)) : Calls Tryz.prog 48 #[.agg (ndC d mv bv kv)] w (RetB (.bool (namedB d)) w) := by
 have HN := Lib.hid (N1.start hT)
 obtain ⟨A1, n1, rfl, l1⟩ := hT.nod.ms.form
 obtain ⟨A2, n2, rfl, l2⟩ := hT.nod.bys.form
 have HO := Box.mk hT.nod.ok
 clear hT
 go_enter Tryz.func48, Tryz.ntmps48
 go_upto_region 1 with (fail)
 generalize w.alloc (.cells (ndC d _ _ _) 35) = W at HN ⊢
 obtain ⟨c0, c1, c2, c3, c4, c5, c6, c7, c8, c9, c10⟩ := HN.out.c
 simp only [Nat.zero_add] at c7
 clear c1 c2 c3 c4 c5 c6 c8 c9 c10
 have hns := HO.out.name
 go_cut [20] (fun x wx => ∃ q : Bool, x = .bool q ∧ Box (q = badB d) ∧ N1 w wx P d ks (.slice A1 d.ms.length n1) (.slice A2 d.bys.length n2) kv)
 case first =>
  by_cases hk : d.kind = 1
  ·have E1 : Box (badB d = !(nameB d.name && !inGroups d.name)) := ⟨by unfold badB; simp [hk]⟩
   have HK := Box.mk hk
   rw [hk] at c0
   clear hk
   obtain ⟨nb, E2⟩ : ∃ z, Box (nameB d.name = z) := ⟨_, ⟨rfl⟩⟩
   obtain ⟨ig, E3⟩ : ∃ z, Box (inGroups d.name = z) := ⟨_, ⟨rfl⟩⟩
   cases nb
   ·first | go_region_with (go_at_call 66; refine (rname_any d.name _ hns).mono ?_; rintro e w5 ⟨rfl, rfl⟩; rw [E2.out]) | fail
    all_goals
     go_wp2_with fail
     go_meet
     exact ⟨_, rfl, ⟨by rw [E1.out, E2.out]; rfl⟩, by first | exact HN.out | exact HN.out.drew⟩
   have hfg := findI_ge d.name groupsL 0
   rw [show groupsL.any (fun x => x.toList == d.name.toList) = inGroups d.name from rfl, E3.out] at hfg
   obtain ⟨fi, HFI⟩ : ∃ z, Box (findI d.name groupsL 0 = z) := ⟨_, ⟨rfl⟩⟩
   rw [HFI.out] at hfg
   cases ig
   all_goals
    have hfi := of_dec hfg
    simp only [if_true, Bool.false_eq_true, if_false] at hfi
    clear hfg
    go_region_held3 (fun w' => w'.cell? ⟨w.heap.size, 0, none⟩ = some (.int .i64 1) ∧ w'.cell? ⟨w.heap.size, 7, none⟩ = some (.string d.name)) (first | go_keep | exact ⟨c0, c7⟩ | exact ⟨cell_drew c0, cell_drew c7⟩ | exact ⟨cell_alloc' _ c0, cell_alloc' _ c7⟩ | exact ⟨cell_alloc' _ (cell_drew c0), cell_alloc' _ (cell_drew c7)⟩)
     (first
      | (go_at_call 66; refine (rname_any d.name _ hns).mono ?_; rintro e w5 ⟨rfl, rfl⟩; rw [E2.out])
      | (go_at_call 68; refine (rgroups_any _).mono ?_; rintro e w5 ⟨rfl, rfl⟩; have HGR := Box.mk (groups_at W); have HGRd := Box.mk (groups_at W.drew))
      | (go_at_call 67; refine (rfind_any _ _ _ groupsL d.name _ (by first | exact HGR.out | exact HGRd.out)).mono ?_; rintro e w5 ⟨rfl, rfl⟩; rw [HFI.out]))
    all_goals
     go_wp2_with fail
     go_meet
     exact ⟨_, rfl, ⟨by rw [E1.out, E2.out, E3.out]; simp [hfi]⟩, by first | exact HN.out | exact HN.out.drew | exact HN.out.next (bel1 _ _) | exact HN.out.drew.next (bel1 _ _) | exact (HN.out.next (bel1 _ _)).drew⟩
  ·have E1 : Box (badB d = false) := ⟨by unfold badB; simp [hk]⟩
   have hk2 : (d.kind == 1) = false := by simpa using hk
   go_wp2_with fail
   go_region
   all_goals
    go_wp2_with fail
    go_meet
    exact ⟨_, rfl, ⟨by rw [E1.out]⟩, by first | exact HN.out | exact HN.out.drew⟩
 case rest =>
  clear HN c0 c7
  obtain ⟨q, rfl, HQ, hbx⟩ := hcut
  rename World => wd
  have HN := Lib.hid hbx; clear hbx
  cases q
  ·have E0 : Box (namedB d = (d.ms.all vmatB && bysB d.bys)) := ⟨named_ok HQ.out.symm⟩
   have c8 := HN.out.c.2.2.2.2.2.2.2.2.1
   simp only [Nat.zero_add] at c8
   go_wp2_with fail
   go_loopw [3] (fun v wr => ∃ k : Nat, k ≤ d.ms.length ∧ v = .int .i64 (k : Nat) ∧ N1 w wr P d ks (.slice A1 d.ms.length n1) (.slice A2 d.bys.length n2) kv ∧ Box ((d.ms.drop k).all vmatB = d.ms.all vmatB)) (fun v _ => d.ms.length - (intOf v).toNat)
   case atStart => exact ⟨0, by omega, rfl, HN.out, ⟨rfl⟩⟩
   case round =>
    clear HN c8
    obtain ⟨k, hk, rfl, hN, HA⟩ := hrel
    have HN := Lib.hid hN; clear hN
    have c8 := HN.out.c.2.2.2.2.2.2.2.2.1
    simp only [Nat.zero_add] at c8
    by_cases hlt : k < d.ms.length
    ·obtain ⟨x, hx⟩ : ∃ x, d.ms[k]? = some x := ⟨d.ms[k], List.getElem?_eq_getElem _⟩
     obtain ⟨b, off, rfl, hb, m0, m1, m2⟩ := Mats.at_ (w := wr) (base := wr.heap.size) (HN.out.nod.ms.seq) k x hx
     obtain ⟨s1, s2⟩ := HO.out.ms x (List.mem_of_getElem? hx)
     obtain ⟨x0, x1, x2⟩ := x
     have HD : Box (d.ms.drop k = (x0, x1, x2) :: d.ms.drop (k + 1)) := ⟨by
      rw [List.drop_eq_getElem_cons hlt, (List.getElem?_eq_some_iff.1 hx).2]⟩
     clear hx
     have hlt2 : (k : Int) < (d.ms.length : Int) := by omega
     go_wp2_with fail
     refine (rvmat_any _ _ _ _ s1 s2).mono ?_
     rintro e w5 ⟨rfl, hb5⟩
     have HN2 := Lib.hid (HN.out.next hb5)
     clear HN hb5 m0 m1 m2 c8
     obtain ⟨vb, E2⟩ : ∃ z, Box (vmatB (x0, x1, x2) = z) := ⟨_, ⟨rfl⟩⟩
     rw [E2.out]
     cases vb
     ·go_wp2_with fail
      go_ret
      exact ⟨ret_bool (by rw [E0.out, ← HA.out, HD.out, List.all_cons, E2.out]; simp), HN2.out.below⟩
     ·go_wp2_with fail
      go_roundw
      case rel => exact ⟨k + 1, by omega, by go_num, HN2.out, ⟨by rw [← HA.out, HD.out, List.all_cons, E2.out]; simp⟩⟩
      case measure => simp [intOf]; omega
    ·have hlt2 : ¬ (k : Int) < (d.ms.length : Int) := by omega
     have E3 : Box (namedB d = bysB d.bys) := ⟨by rw [E0.out, ← HA.out, List.drop_eq_nil_of_le (by omega)]; simp⟩
     clear HA E0
     have c9 := HN.out.c.2.2.2.2.2.2.2.2.2.1
     simp only [Nat.zero_add] at c9
     go_wp2_with fail
     go_loopw [4] (fun v wr => ∃ k : Nat, k ≤ d.bys.length ∧ v = .int .i64 (k : Nat) ∧ N1 w wr P d ks (.slice A1 d.ms.length n1) (.slice A2 d.bys.length n2) kv ∧ Box (bysFrom (prevOf d.bys k) (d.bys.drop k) = bysB d.bys)) (fun v _ => d.bys.length - (intOf v).toNat)
     case atStart => exact ⟨0, by omega, rfl, HN.out, ⟨rfl⟩⟩
     case round =>
      clear HN c9
      obtain ⟨k, hk, rfl, hN, HA⟩ := hrel
      have HN := Lib.hid hN; clear hN
      have c9 := HN.out.c.2.2.2.2.2.2.2.2.2.1
      simp only [Nat.zero_add] at c9
      by_cases hlt : k < d.bys.length
      ·obtain ⟨x, hx⟩ : ∃ x, d.bys[k]? = some x := ⟨d.bys[k], List.getElem?_eq_getElem _⟩
       obtain ⟨b, off, rfl, hb, m0⟩ := HN.out.nod.bys.at1 k (.string x) (by simp [hx])
       have sx := HO.out.bys x (List.mem_of_getElem? hx)
       have HD : Box (d.bys.drop k = x :: d.bys.drop (k + 1)) := ⟨by
        rw [List.drop_eq_getElem_cons hlt, (List.getElem?_eq_some_iff.1 hx).2]⟩
       have HX : Box (prevOf d.bys (k + 1) = some x) := ⟨by unfold prevOf; simpa using hx⟩
       have hlt2 : (k : Int) < (d.bys.length : Int) := by omega
       clear hx
       by_cases hk0 : k = 0
       ·subst hk0
        simp only [Nat.add_zero] at m0
        obtain ⟨nb, E2⟩ : ∃ z, Box (nameB x = z) := ⟨_, ⟨rfl⟩⟩
        cases nb
        ·have HNM : Box (∀ w', Calls Tryz.prog 66 #[.string x] w' fun e w'' => e = .returned (.bool false) ∧ w'' = w') := ⟨fun w' => by have h := rname_any x w' sx; rw [E2.out] at h; exact h.mono fun _ _ ⟨p, q⟩ => ⟨p, q.symm⟩⟩
         go_wp2_with fail
         go_quiet ((go_at_call 66; exact Calls.quiet_of_same (HNM.out _)))
         go_wp2_with fail
         go_ret
         exact ⟨ret_bool (by rw [E3.out, ← HA.out, HD.out, bysFrom_no E2.out]), (HN.out.next (below_drewN _ _)).below⟩
        ·have E4 : Box (bysFrom (some x) (d.bys.drop (0 + 1)) = bysB d.bys) := ⟨by rw [← HA.out, HD.out, show prevOf d.bys 0 = none from rfl, bysFrom_first E2.out]⟩
         have HNM : Box (∀ w', Calls Tryz.prog 66 #[.string x] w' fun e w'' => e = .returned (.bool true) ∧ w'' = w') := ⟨fun w' => by have h := rname_any x w' sx; rw [E2.out] at h; exact h.mono fun _ _ ⟨p, q⟩ => ⟨p, q.symm⟩⟩
         go_wp2_with fail
         go_quiet ((go_at_call 66; exact Calls.quiet_of_same (HNM.out _)))
         go_wp2_with fail
         go_roundw
         case rel => exact ⟨0 + 1, by omega, by go_num, HN.out.next (below_drewN _ _), ⟨by rw [HX.out]; exact E4.out⟩⟩
         case measure => simp [intOf]; omega
       ·obtain ⟨j, hkj⟩ : ∃ j, k = j + 1 := ⟨k - 1, by omega⟩
        obtain ⟨y, hy⟩ : ∃ y, d.bys[j]? = some y := ⟨d.bys[j]'(by omega), List.getElem?_eq_getElem _⟩
        obtain ⟨b', off', hA, hb', m1⟩ := HN.out.nod.bys.at1 j (.string y) (by simp [hy])
        cases hA
        have HY : Box (prevOf d.bys k = some y) := ⟨by rw [hkj]; unfold prevOf; simpa using hy⟩
        have hj : 0 < (k : Int) := by omega
        have hj0 : decide (0 < (k : Int)) = true := decide_eq_true (by omega)
        have hj4 : 0 < k := by omega
        have hj5 : decide (0 < k) = true := decide_eq_true (by omega)
        have hj1 : IntKind.i64.wrap ((k : Int) - 1) = (j : Int) := by rw [show (k : Int) - 1 = (j : Int) by omega]; exact W64_in (by omega) (by omega)
        have hj2 : (j : Int) < (d.bys.length : Int) := by omega
        have hj3 : j < d.bys.length := by omega
        clear hy hkj hk0
        obtain ⟨nb, E2⟩ : ∃ z, Box (nameB x = z) := ⟨_, ⟨rfl⟩⟩
        cases nb
        ·have HNM : Box (∀ w', Calls Tryz.prog 66 #[.string x] w' fun e w'' => e = .returned (.bool false) ∧ w'' = w') := ⟨fun w' => by have h := rname_any x w' sx; rw [E2.out] at h; exact h.mono fun _ _ ⟨p, q⟩ => ⟨p, q.symm⟩⟩
         go_wp2_with fail
         go_quiet ((go_at_call 66; exact Calls.quiet_of_same (HNM.out _)))
         go_wp2_with fail
         go_ret
         exact ⟨ret_bool (by rw [E3.out, ← HA.out, HD.out, bysFrom_no E2.out]), (HN.out.next (below_drewN _ _)).below⟩
        have HNM : Box (∀ w', Calls Tryz.prog 66 #[.string x] w' fun e w'' => e = .returned (.bool true) ∧ w'' = w') := ⟨fun w' => by have h := rname_any x w' sx; rw [E2.out] at h; exact h.mono fun _ _ ⟨p, q⟩ => ⟨p, q.symm⟩⟩
        obtain ⟨q, E5⟩ : ∃ z, Box (leS x y = z) := ⟨_, ⟨rfl⟩⟩
        have hq := E5.out
        unfold leS at hq
        cases q
        ·have hq1 : Op.bytesLess x.toList y.toList = false := by simp at hq; exact hq.1
         have hq2 : (x.toList == y.toList) = false := by simp at hq; simpa using hq.2
         have E4 : Box (bysFrom (some x) (d.bys.drop (k + 1)) = bysB d.bys) := ⟨by rw [← HA.out, HD.out, HY.out, bysFrom_gt E2.out E5.out]⟩
         clear hq
         go_wp2_with fail
         go_quiet ((go_at_call 66; exact Calls.quiet_of_same (HNM.out _)))
         go_wp2_with fail
         go_roundw
         case rel => exact ⟨k + 1, by omega, by go_num, HN.out.next (below_drewN _ _), ⟨by rw [HX.out]; exact E4.out⟩⟩
         case measure => simp [intOf]; omega
        ·have hq1 : (Op.bytesLess x.toList y.toList || x.toList == y.toList) = true := hq
         clear hq
         go_wp2_with fail
         go_quiet ((go_at_call 66; exact Calls.quiet_of_same (HNM.out _)))
         go_wp2_with fail
         go_ret
         exact ⟨ret_bool (by rw [E3.out, ← HA.out, HD.out, HY.out, bysFrom_le E5.out]), (HN.out.next (below_drewN _ _)).below⟩
      ·have hlt2 : ¬ (k : Int) < (d.bys.length : Int) := by omega
       go_wp2_with fail
       go_ret
       exact ⟨ret_bool (by rw [E3.out, ← HA.out, List.drop_eq_nil_of_le (by omega)]; rfl), HN.out.below⟩
  ·have E0 : Box (namedB d = false) := ⟨named_bad HQ.out.symm⟩
   go_wp2_with fail
   go_ret
   exact ⟨ret_bool (by rw [E0.out]), HN.out.below⟩
end
end Go.Proofs.YtpgdijbfkahepaaGreatDoor
