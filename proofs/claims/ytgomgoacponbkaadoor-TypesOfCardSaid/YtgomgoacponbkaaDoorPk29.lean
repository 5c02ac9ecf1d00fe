/- Contracts, packed: Si. -/
import Derived.Test.YtgomgoacponbkaaDoorPk28
set_option linter.unusedVariables false
set_option linter.unusedSimpArgs false
namespace Go.Proofs.YtgomgoacponbkaaDoor
section
open Go.RowKit FracM

set_option maxHeartbeats 1000000 in
theorem sameTexts_any (A : Option Addr) (n c : Nat) (A' : Option Addr) (n' c' : Nat) (l l' : List ByteArray) (w : World) (h : StrsP w (.slice A n c) l) (h' : StrsP w (.slice A' n' c') l') :
    Calls Tryd.prog 39 #[.slice A n c, .slice A' n' c'] w (RetB (.bool (sameB l l')) w) := by
  obtain ⟨hn, hm⟩ := h.len
  obtain ⟨hn', hm'⟩ := h'.len
  have HS := Box.mk (And.intro h h')
  clear h h'
  by_cases hl : n = n'
  · subst hl
    have HN := Box.mk (And.intro hn hn')
    clear hn hn'
    have hne : ((n : Int) != (n : Int)) = false := by simp
    go_enter Tryd.func39, Tryd.ntmps39
    go_wp2_with fail
    go_loopw [5] (fun v wr => ∃ k : Nat, k ≤ n ∧ v = .int .i64 (k : Nat) ∧ Below w.heap.size w wr ∧ Box (sameB (l.drop k) (l'.drop k) = sameB l l')) (fun v _ => n - (intOf v).toNat)
    case atStart => exact ⟨0, by omega, rfl, Below.refl _ _, ⟨rfl⟩⟩
    case round =>
      obtain ⟨k, hk, rfl, hb, HA⟩ := hrel
      have HB := Lib.hid hb
      by_cases hlt : k < n
      · obtain ⟨x, b1, off1, hx, rfl, hb1, p1⟩ := (HS.out.1.below hb).at_ k (by rw [← HN.out.1]; exact hlt)
        obtain ⟨y, b2, off2, hy, rfl, hb2, p2⟩ := (HS.out.2.below hb).at_ k (by rw [← HN.out.2]; exact hlt)
        have HD := Box.mk (And.intro (drop_at hx) (drop_at hy))
        have hlt2 : (k : Int) < (n : Int) := by omega
        clear hb hx hy
        obtain ⟨q, E⟩ : ∃ z, Box ((x.toList == y.toList) = z) := ⟨_, ⟨rfl⟩⟩
        cases q
        · have hq := E.out
          have hq2 : (x.toList != y.toList) = true := by rw [bne, hq]; rfl
          go_wp2_with fail
          first | go_region | skip
          all_goals
            go_wp2_with fail
            go_ret
            exact ⟨ret_bool (by rw [← HA.out, HD.out.1, HD.out.2, sameB, E.out]; rfl), by first | exact HB.out | exact bdrew HB.out 1⟩
        · have hq := E.out
          have hq2 : (x.toList != y.toList) = false := by rw [bne, hq]; rfl
          go_wp2_with fail
          first | go_region | skip
          all_goals
            go_wp2_with fail
            go_roundw
            case rel => exact ⟨k + 1, by omega, by go_num, by first | exact HB.out | exact bdrew HB.out 1, ⟨by rw [← HA.out, HD.out.1, HD.out.2, sameB, E.out]; rfl⟩⟩
            case measure => simp [intOf]; omega
      · have hlt2 : ¬ (k : Int) < (n : Int) := by omega
        clear hb
        go_wp2_with fail
        go_ret
        exact ⟨ret_bool (by rw [← HA.out, List.drop_eq_nil_of_le (by rw [← HN.out.1]; omega), List.drop_eq_nil_of_le (by rw [← HN.out.2]; omega)]; rfl), HB.out⟩
  · have hne : ((n : Int) != (n' : Int)) = true := by simp; omega
    have E : Box (sameB l l' = false) := ⟨by rw [same_eq]; apply decide_eq_false; intro h; rw [h] at hn; omega⟩
    go_enter Tryd.func39, Tryd.ntmps39
    go_wp2_with fail
    go_ret
    exact ⟨ret_bool E.out.symm, Below.refl _ _⟩
set_option maxHeartbeats 1000000 in
theorem rBy_any (t : Tree) (P : Nat → Nat → Prop) (w : World) (s : Sl) (hT : TreeAt w P t s) (hn : nds t ≤ 1000000) (hd : dep t ≤ 1000000) : Calls Tryd.prog 38 #[.agg (ndC t.d s.1 s.2.1 s.2.2)] w (RetBy t w) := by
  obtain ⟨d, ks⟩ := t
  obtain ⟨mv, bv, kv⟩ := s
  have HN := Lib.hid (N1.start hT)
  clear hT
  simp only [Tree.d]
  go_enter Tryd.func38, Tryd.ntmps38
  go_upto_region 1 with (fail)
  generalize w.alloc (.cells (ndC d _ _ _) 38) = W at HN ⊢
  obtain ⟨c0, c1, c2, c3, c4, c5, c6, c7, c8, c9, c10⟩ := HN.out.c
  simp only [Nat.zero_add] at c1 c2 c3 c4 c5 c6 c7 c8 c9 c10
  go_wp2_with fail
  refine (rpvalid_any (.node d ks) P _ (mv, bv, kv) HN.out.nod.tree hn hd).mono ?_
  rintro e w1 ⟨rfl, hb⟩
  clear c0 c1 c2 c3 c4 c5 c6 c7 c8 c9 c10
  have HN2 := Lib.hid (HN.out.next hb); clear HN hb
  obtain ⟨q, E1⟩ : ∃ z, Box (validE (.node d ks) = z) := ⟨_, ⟨rfl⟩⟩
  rw [E1.out]
  by_cases hq : q = 0
  · subst hq
    have CK : Box (chk (.node d ks) = 0) := ⟨by
      have h := E1.out
      unfold validE at h
      split at h
      · cases h
      · exact h⟩
    obtain ⟨c0, c1, c2, c3, c4, c5, c6, c7, c8, c9, c10⟩ := HN2.out.c
    simp only [Nat.zero_add] at c1 c2 c3 c4 c5 c6 c7 c8 c9 c10
    go_wp2_with fail
    refine (number_any (.node d ks) P _ (mv, bv, kv) HN2.out.nod.tree CK.out).mono ?_
    rintro e w2 ⟨rfl, hb⟩
    clear c0 c1 c2 c3 c4 c5 c6 c7 c8 c9 c10
    have HN := Lib.hid (HN2.out.next hb); clear HN2 hb
    obtain ⟨q, E2⟩ : ∃ z, Box (rlB (.node d ks) = z) := ⟨_, ⟨rfl⟩⟩
    rw [E2.out]
    cases q
    · obtain ⟨c0, c1, c2, c3, c4, c5, c6, c7, c8, c9, c10⟩ := HN.out.c
      simp only [Nat.zero_add] at c1 c2 c3 c4 c5 c6 c7 c8 c9 c10
      go_wp2_with fail
      refine (rby_any (.node d ks) P _ (mv, bv, kv) HN.out.nod.tree CK.out E2.out).mono ?_
      rintro e w3 ⟨A, n, c, rfl, hn, hs, hb⟩
      clear c0 c1 c2 c3 c4 c5 c6 c7 c8 c9 c10
      have HB := Lib.hid (HN.out.next hb).below; clear HN hb
      have HS := Box.mk (And.intro hn hs); clear hn hs
      go_wp2_with fail
      exact bodyPost_ret (v := .tuple #[.slice A n c, .bool false]) (by simp [results, Tryd.results38, go_sem]) rfl (retBy (by unfold byN; rw [E1.out, E2.out]; rfl) (by unfold byL; rw [if_pos ⟨E1.out, E2.out⟩]) HS.out.1 HS.out.2 HB.out)
    · go_wp2_with fail
      exact bodyPost_ret (v := .tuple #[.slice none 0 0, .bool true]) (by simp [results, Tryd.results38, go_sem]) rfl (retBy (l := []) (by unfold byN; rw [E1.out, E2.out]; rfl) (by unfold byL; rw [if_neg (by rw [E2.out]; simp)]) rfl (SeqP.nil _ _ _) HN.out.below)
  · have hq2 : (q != 0) = true := by simpa using hq
    have hq3 : (q == 0) = false := by simpa using hq
    go_wp2_with fail
    exact bodyPost_ret (v := .tuple #[.slice none 0 0, .bool false]) (by simp [results, Tryd.results38, go_sem]) rfl (retBy (l := []) (by unfold byN; rw [E1.out, hq3]; rfl) (by unfold byL; rw [if_neg (by rw [E1.out]; simp [hq])]) rfl (SeqP.nil _ _ _) HN2.out.below)
theorem same_refl (l : List ByteArray) : sameB l l = true := by rw [same_eq]; simp
set_option maxHeartbeats 1000000 in
theorem lrows_any (t : Tree) (w : World) (s : Sl) (hT : TreeAt w AnyP t s) (hw : WordsG w) (hn : nds t ≤ 1000000) (hd : dep t ≤ 1000000) : Calls Tryd.prog 24 #[.agg (ndC t.d s.1 s.2.1 s.2.2)] w (RetB (.bool true) w) := by
  obtain ⟨d, ks⟩ := t
  obtain ⟨mv, bv, kv⟩ := s
  have HW := Box.mk hw
  have HN := Lib.hid (N1.start hT)
  clear hT hw
  simp only [Tree.d]
  go_enter Tryd.func24, Tryd.ntmps24
  go_upto_region 1 with (fail)
  generalize w.alloc (.cells (ndC d _ _ _) 38) = W at HN ⊢
  obtain ⟨c0, c1, c2, c3, c4, c5, c6, c7, c8, c9, c10⟩ := HN.out.c
  simp only [Nat.zero_add] at c1 c2 c3 c4 c5 c6 c7 c8 c9 c10
  go_wp2_with fail
  refine (by_any (.node d ks) AnyP _ (mv, bv, kv) HN.out.nod.tree (HW.out.below HN.out.below)).mono ?_
  rintro e w1 ⟨A, n, c, rfl, h1, h2, hb⟩
  clear c0 c1 c2 c3 c4 c5 c6 c7 c8 c9 c10
  have HN2 := Lib.hid (HN.out.next hb); clear HN hb
  have HS := Box.mk (And.intro h1 h2)
  clear h1 h2
  generalize hq : byN (.node d ks) = q
  have HQ := Box.mk hq
  clear hq
  obtain ⟨c0, c1, c2, c3, c4, c5, c6, c7, c8, c9, c10⟩ := HN2.out.c
  simp only [Nat.zero_add] at c1 c2 c3 c4 c5 c6 c7 c8 c9 c10
  go_wp2_with fail
  refine (rBy_any (.node d ks) AnyP _ (mv, bv, kv) HN2.out.nod.tree hn hd).mono ?_
  rintro e w2 ⟨A', n', c', rfl, h1, h2, hb⟩
  rw [HQ.out]
  clear c0 c1 c2 c3 c4 c5 c6 c7 c8 c9 c10
  have HS1 := Box.mk (And.intro HS.out.1 (HS.out.2.below hb))
  have HB := Lib.hid (HN2.out.next hb).below; clear HN2 hb HS
  have HS2 := Box.mk (And.intro h1 h2)
  clear h1 h2
  have hqq : (q == q) = true := by simp
  go_wp2_with fail
  refine (sameTexts_any _ _ _ _ _ _ _ _ _ HS1.out.2 HS2.out.2).mono ?_
  rintro e w3 ⟨rfl, hb⟩
  have HB3 := Lib.hid (bthen HB.out hb (Nat.le_refl _)); clear HB hb HS1 HS2
  rw [same_refl]
  go_wp2_with fail
  go_ret
  exact ⟨rfl, HB3.out⟩
end
end Go.Proofs.YtgomgoacponbkaaDoor
