/- Contracts, packed: Sg. -/
import Derived.Test.YtipafbppaaflcaaDoorPc24
set_option linter.unusedVariables false
set_option linter.unusedSimpArgs false
namespace Go.Proofs.YtipafbppaaflcaaDoor
section
open Go.RowKit FracM
theorem of_dec {p : Prop} [Decidable p] {b : Bool} (h : decide p = b) : if b then p else ¬ p := by cases b <;> simp_all
theorem shaped_fk {d : Nd} {n : Nat} (h : shapedB d n = true) : (d.kind = 0 ∧ d.fn = 0 ∧ n = 0) ∨ (d.kind = 1 ∧ n = 0 ∧ 0 ≤ d.fn ∧ d.fn ≤ 7) ∨ (d.kind = 2 ∧ n = 1 ∧ 0 ≤ d.fn ∧ d.fn ≤ 4) ∨ (d.kind = 3 ∧ n = 2 ∧ 0 ≤ d.fn ∧ d.fn ≤ 3) := by
 rcases shape_cases h with ⟨h1, h2⟩ | ⟨h1, h2, h3, h4⟩ | ⟨h1, h2, h3, h4⟩ | ⟨h1, h2, h3, h4⟩
 ·left
  unfold shapedB at h
  rw [if_pos h1] at h
  simp at h
  exact ⟨h1, by omega, h2⟩
 ·exact .inr (.inl ⟨h1, h2, h3, h4⟩)
 ·exact .inr (.inr (.inl ⟨h1, h2, h3, h4⟩))
 ·exact .inr (.inr (.inr ⟨h1, h2, h3, h4⟩))
theorem shaped_kind {d : Nd} {n : Nat} (h : shapedB d n = true) : 0 ≤ d.kind ∧ d.kind ≤ 3 ∧ 0 ≤ d.fn := by
 rcases shape_cases h with ⟨h1, h2⟩ | ⟨h1, h2, h3, h4⟩ | ⟨h1, h2, h3, h4⟩ | ⟨h1, h2, h3, h4⟩
 ·refine ⟨by omega, by omega, ?_⟩
  unfold shapedB at h
  rw [if_pos h1] at h
  simp at h
  omega
 all_goals exact ⟨by omega, by omega, h3⟩
set_option maxHeartbeats 4000000 in
set_option maxRecDepth 100000 in
theorem rshaped_any (d : Nd) (ks : List Tree) (P : Nat → Nat → Prop) (w : World) (mv bv kv : Value) (hT : TreeAt w P (.node d ks) (mv, bv, kv)) : Calls Tryd.prog 85 #[.agg (ndC d mv bv kv)] w (RetB (.bool (shapedB d ks.length)) w) := by
 have HN := Lib.hid (N1.start hT)
 obtain ⟨A1, n1, rfl, l1⟩ := hT.nod.ms.form
 obtain ⟨A2, n2, rfl, l2⟩ := hT.nod.bys.form
 obtain ⟨A3, n3, rfl, l3⟩ := hT.nod.kform
 have HO := Box.mk hT.nod.ok
 clear hT
 go_enter Tryd.func85, Tryd.ntmps85
 go_upto_region 1 with (fail)
 generalize w.alloc (.cells (ndC d _ _ _) 29) = W at HN ⊢
 obtain ⟨c0, c1, c2, c3, c4, c5, c6, c7, c8, c9, c10⟩ := HN.out.c
 simp only [Nat.zero_add] at c1 c2 c3 c4 c5 c6 c7 c8 c9 c10
 by_cases hb1 : d.kind < 0
 ·have E : Box (shapedB d ks.length = false) := ⟨by rw [Bool.eq_false_iff]; intro h; have := shaped_kind h; omega⟩
  go_wp2_with fail
  go_ret
  exact ⟨ret_bool (by rw [E.out]), HN.out.below⟩
 by_cases hb2 : 3 < d.kind
 ·have E : Box (shapedB d ks.length = false) := ⟨by rw [Bool.eq_false_iff]; intro h; have := shaped_kind h; omega⟩
  go_wp2_with fail
  go_ret
  exact ⟨ret_bool (by rw [E.out]), HN.out.below⟩
 by_cases hb3 : d.fn < 0
 ·have E : Box (shapedB d ks.length = false) := ⟨by rw [Bool.eq_false_iff]; intro h; have := shaped_kind h; omega⟩
  go_wp2_with fail
  go_ret
  exact ⟨ret_bool (by rw [E.out]), HN.out.below⟩
 obtain ⟨⟨-, -, -, -, -, ⟨b1, b2⟩, ⟨b3, b4⟩⟩, -, -, -⟩ := HO.out
 have HKD : Box (d.kind = 0 ∨ d.kind = 1 ∨ d.kind = 2 ∨ d.kind = 3) := ⟨by omega⟩
 have HF3 := Box.mk hb3
 go_upto_region 5 with (fail)
 have HN5 := Lib.hid (HN.out.next (bel2 W (.cells #[.int .i64 1, .int .i64 8, .int .i64 5, .int .i64 4] 3) (.cells #[.int .i64 0, .int .i64 0, .int .i64 1, .int .i64 2] 3)))
 have HL1 : Hid (Blk ((W.alloc (.cells #[.int .i64 1, .int .i64 8, .int .i64 5, .int .i64 4] 3)).alloc (.cells #[.int .i64 0, .int .i64 0, .int .i64 1, .int .i64 2] 3)) W.heap.size 3 #[.int .i64 1, .int .i64 8, .int .i64 5, .int .i64 4]) := (Blk.new W _ _).alloc _
 have HL2 : Hid (Blk ((W.alloc (.cells #[.int .i64 1, .int .i64 8, .int .i64 5, .int .i64 4] 3)).alloc (.cells #[.int .i64 0, .int .i64 0, .int .i64 1, .int .i64 2] 3)) (W.heap.size + 1) 3 #[.int .i64 0, .int .i64 0, .int .i64 1, .int .i64 2]) := Blk.newAt _ _ (by simp)
 clear HN c0 c1 c2 c3 c4 c5 c6 c7 c8 c9 c10
 generalize W.heap.size = g at *
 generalize (W.alloc (.cells #[.int .i64 1, .int .i64 8, .int .i64 5, .int .i64 4] 3)).alloc (.cells #[.int .i64 0, .int .i64 0, .int .i64 1, .int .i64 2] 3) = W5 at *
 obtain ⟨c0, c1, c2, c3, c4, c5, c6, c7, c8, c9, c10⟩ := HN5.out.c
 simp only [Nat.zero_add] at c1 c2 c3 c4 c5 c6 c7 c8 c9 c10
 by_cases hk0 : d.kind = 0
 ·have q1 : W5.cell? ⟨g, 0, none⟩ = some (.int .i64 1) := by have := HL1.out; unfold Blk at this; simp [World.cell?, this]
  have q2 : W5.cell? ⟨g + 1, 0, none⟩ = some (.int .i64 0) := by have := HL2.out; unfold Blk at this; simp [World.cell?, this]
  rw [hk0] at c0
  by_cases hs : 1 ≤ d.fn ∨ ks.length ≠ 0
  ·have E : Box (shapedB d ks.length = false) := ⟨by
    rw [Bool.eq_false_iff]; intro h
    have := shaped_fk h
    omega⟩
   clear hk0 hb1 hb2 hb3
   by_cases hs1 : 1 ≤ d.fn
   ·go_region
    all_goals
     go_wp2_with fail
     go_ret
     exact ⟨ret_bool (by rw [E.out]), by first | exact HN5.out.below | exact HN5.out.drew.below⟩
   ·have hs2 : (((ks.length : Nat) : Int) != 0) = true := bne_iff_ne.2 (by omega)
    go_region
    all_goals
     go_wp2_with fail
     go_ret
     exact ⟨ret_bool (by rw [E.out]), by first | exact HN5.out.below | exact HN5.out.drew.below⟩
  ·have hs1 : ¬ 1 ≤ d.fn := by omega
   have hs2 : (((ks.length : Nat) : Int) != 0) = false := by rw [bne_eq_false_iff_eq]; omega
   have hs3 : ks.length = 0 := by omega
   have HS3 := Box.mk hs3
   have HK0 := Box.mk hk0
   clear hk0 hb1 hb2 hb3 hs hs3
   go_region
   all_goals
    go_wp2_with (go_at_call 105; refine (rvalid_any _ _ _ b1 b2 b3 b4).mono ?_; rintro e w' ⟨rfl, hb1⟩; have HB1 := (by first | exact Lib.hid (HN5.out.next hb1) | exact Lib.hid (HN5.out.drew.next hb1)); clear hb1; obtain ⟨c0, c1, c2, c3, c4, c5, c6, c7, c8, c9, c10⟩ := HB1.out.c; simp only [Nat.zero_add] at c1 c2 c3 c4 c5 c6 c7 c8 c9 c10; rw [HK0.out] at c0)
   all_goals
    go_ret
    refine ⟨ret_bool ?_, by first | exact HN5.out.below | exact HN5.out.drew.below | exact HB1.out.below⟩
    have hk := HK0.out
    have hn := HS3.out
    have hf := HF3.out
    unfold shapedB noSelB noNumB
    simp_all [len0]
    try first | done | (intros; omega) | (intros; intro hcc; simp_all)
 by_cases hk1 : d.kind = 1
 ·have q1 : W5.cell? ⟨g, 1, none⟩ = some (.int .i64 8) := by have := HL1.out; unfold Blk at this; simp [World.cell?, this]
  have q2 : W5.cell? ⟨g + 1, 1, none⟩ = some (.int .i64 0) := by have := HL2.out; unfold Blk at this; simp [World.cell?, this]
  rw [hk1] at c0
  by_cases hs : 8 ≤ d.fn ∨ ks.length ≠ 0
  ·have E : Box (shapedB d ks.length = false) := ⟨by
    rw [Bool.eq_false_iff]; intro h
    have := shaped_fk h
    omega⟩
   clear hk1 hb1 hb2 hb3
   by_cases hs1 : 8 ≤ d.fn
   ·go_region
    all_goals
     go_wp2_with fail
     go_ret
     exact ⟨ret_bool (by rw [E.out]), by first | exact HN5.out.below | exact HN5.out.drew.below⟩
   ·have hs2 : (((ks.length : Nat) : Int) != 0) = true := bne_iff_ne.2 (by omega)
    go_region
    all_goals
     go_wp2_with fail
     go_ret
     exact ⟨ret_bool (by rw [E.out]), by first | exact HN5.out.below | exact HN5.out.drew.below⟩
  ·have hs1 : ¬ 8 ≤ d.fn := by omega
   have hs2 : (((ks.length : Nat) : Int) != 0) = false := by rw [bne_eq_false_iff_eq]; omega
   have hs3 : ks.length = 0 := by omega
   have HS3 := Box.mk hs3
   have HK0 := Box.mk hk1
   clear hk1 hb1 hb2 hb3 hs hs3
   go_region
   all_goals
    go_wp2_with (go_at_call 105; refine (rvalid_any _ _ _ b1 b2 b3 b4).mono ?_; rintro e w' ⟨rfl, hb1⟩; have HB1 := (by first | exact Lib.hid (HN5.out.next hb1) | exact Lib.hid (HN5.out.drew.next hb1)); clear hb1; obtain ⟨c0, c1, c2, c3, c4, c5, c6, c7, c8, c9, c10⟩ := HB1.out.c; simp only [Nat.zero_add] at c1 c2 c3 c4 c5 c6 c7 c8 c9 c10; rw [HK0.out] at c0)
   all_goals
    go_ret
    refine ⟨ret_bool ?_, by first | exact HN5.out.below | exact HN5.out.drew.below | exact HB1.out.below⟩
    have hk := HK0.out
    have hn := HS3.out
    have hf := HF3.out
    unfold shapedB noSelB noNumB
    simp_all [len0]
    try first | done | (intros; omega) | (intros; intro hcc; simp_all)
 by_cases hk2 : d.kind = 2
 ·have q1 : W5.cell? ⟨g, 2, none⟩ = some (.int .i64 5) := by have := HL1.out; unfold Blk at this; simp [World.cell?, this]
  have q2 : W5.cell? ⟨g + 1, 2, none⟩ = some (.int .i64 1) := by have := HL2.out; unfold Blk at this; simp [World.cell?, this]
  rw [hk2] at c0
  by_cases hs : 5 ≤ d.fn ∨ ks.length ≠ 1
  ·have E : Box (shapedB d ks.length = false) := ⟨by
    rw [Bool.eq_false_iff]; intro h
    have := shaped_fk h
    omega⟩
   clear hk2 hb1 hb2 hb3
   by_cases hs1 : 5 ≤ d.fn
   ·go_region
    all_goals
     go_wp2_with fail
     go_ret
     exact ⟨ret_bool (by rw [E.out]), by first | exact HN5.out.below | exact HN5.out.drew.below⟩
   ·have hs2 : (((ks.length : Nat) : Int) != 1) = true := bne_iff_ne.2 (by omega)
    go_region
    all_goals
     go_wp2_with fail
     go_ret
     exact ⟨ret_bool (by rw [E.out]), by first | exact HN5.out.below | exact HN5.out.drew.below⟩
  ·have hs1 : ¬ 5 ≤ d.fn := by omega
   have hs2 : (((ks.length : Nat) : Int) != 1) = false := by rw [bne_eq_false_iff_eq]; omega
   have hs3 : ks.length = 1 := by omega
   have HS3 := Box.mk hs3
   have HK0 := Box.mk hk2
   clear hk2 hb1 hb2 hb3 hs hs3
   go_region
   all_goals
    go_wp2_with (go_at_call 105; refine (rvalid_any _ _ _ b1 b2 b3 b4).mono ?_; rintro e w' ⟨rfl, hb1⟩; have HB1 := (by first | exact Lib.hid (HN5.out.next hb1) | exact Lib.hid (HN5.out.drew.next hb1)); clear hb1; obtain ⟨c0, c1, c2, c3, c4, c5, c6, c7, c8, c9, c10⟩ := HB1.out.c; simp only [Nat.zero_add] at c1 c2 c3 c4 c5 c6 c7 c8 c9 c10; rw [HK0.out] at c0)
   all_goals
    go_ret
    refine ⟨ret_bool ?_, by first | exact HN5.out.below | exact HN5.out.drew.below | exact HB1.out.below⟩
    have hk := HK0.out
    have hn := HS3.out
    have hf := HF3.out
    unfold shapedB noSelB noNumB
    simp_all [len0]
    try first | done | (intros; omega) | (intros; intro hcc; simp_all)
 by_cases hk3 : d.kind = 3
 ·have q1 : W5.cell? ⟨g, 3, none⟩ = some (.int .i64 4) := by have := HL1.out; unfold Blk at this; simp [World.cell?, this]
  have q2 : W5.cell? ⟨g + 1, 3, none⟩ = some (.int .i64 2) := by have := HL2.out; unfold Blk at this; simp [World.cell?, this]
  rw [hk3] at c0
  by_cases hs : 4 ≤ d.fn ∨ ks.length ≠ 2
  ·have E : Box (shapedB d ks.length = false) := ⟨by
    rw [Bool.eq_false_iff]; intro h
    have := shaped_fk h
    omega⟩
   clear hk3 hb1 hb2 hb3
   by_cases hs1 : 4 ≤ d.fn
   ·go_region
    all_goals
     go_wp2_with fail
     go_ret
     exact ⟨ret_bool (by rw [E.out]), by first | exact HN5.out.below | exact HN5.out.drew.below⟩
   ·have hs2 : (((ks.length : Nat) : Int) != 2) = true := bne_iff_ne.2 (by omega)
    go_region
    all_goals
     go_wp2_with fail
     go_ret
     exact ⟨ret_bool (by rw [E.out]), by first | exact HN5.out.below | exact HN5.out.drew.below⟩
  ·have hs1 : ¬ 4 ≤ d.fn := by omega
   have hs2 : (((ks.length : Nat) : Int) != 2) = false := by rw [bne_eq_false_iff_eq]; omega
   have hs3 : ks.length = 2 := by omega
   have HS3 := Box.mk hs3
   have HK0 := Box.mk hk3
   clear hk3 hb1 hb2 hb3 hs hs3
   go_region
   all_goals
    go_wp2_with (go_at_call 105; refine (rvalid_any _ _ _ b1 b2 b3 b4).mono ?_; rintro e w' ⟨rfl, hb1⟩; have HB1 := (by first | exact Lib.hid (HN5.out.next hb1) | exact Lib.hid (HN5.out.drew.next hb1)); clear hb1; obtain ⟨c0, c1, c2, c3, c4, c5, c6, c7, c8, c9, c10⟩ := HB1.out.c; simp only [Nat.zero_add] at c1 c2 c3 c4 c5 c6 c7 c8 c9 c10; rw [HK0.out] at c0)
   all_goals
    go_ret
    refine ⟨ret_bool ?_, by first | exact HN5.out.below | exact HN5.out.drew.below | exact HB1.out.below⟩
    have hk := HK0.out
    have hn := HS3.out
    have hf := HF3.out
    unfold shapedB noSelB noNumB
    simp_all [len0]
    try first | done | (intros; omega) | (intros; intro hcc; simp_all)
 exfalso
 rcases HKD.out with h | h | h | h <;> omega
end
end Go.Proofs.YtipafbppaaflcaaDoor
