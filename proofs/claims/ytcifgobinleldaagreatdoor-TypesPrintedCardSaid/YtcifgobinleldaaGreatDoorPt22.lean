/- Contracts, packed: Ql. -/
import Derived.Test.YtcifgobinleldaaGreatDoorPt21
set_option linter.unusedVariables false
set_option linter.unusedSimpArgs false
namespace Go.Proofs.YtcifgobinleldaaGreatDoor
section
open Go.RowKit FracM

theorem RetStrs.after {l : List ByteArray} {w w1 w' : World} {e : Ending} (h : RetStrs l w1 e w') (hb : Below w.heap.size w w1) : RetStrs l w e w' := by
  obtain ⟨A, n, c, h1, h2, h3, h4⟩ := h
  exact ⟨A, n, c, h1, h2, h3, bthen hb h4 (Nat.le_refl _)⟩
theorem RetStrs.of {l l' : List ByteArray} {w w' : World} {e : Ending} (h : RetStrs l w e w') (hl : l = l') : RetStrs l' w e w' := hl ▸ h
theorem star_at (w : World) : StrsP (w.alloc (.cells #[.string ⟨#[42]⟩] 9)) (.slice (some ⟨w.heap.size, 0, none⟩) 1 1) [starS] := by
  refine ⟨rfl, _, _, rfl, Nat.le_refl _, by unfold maxLen; omega, fun _ => ⟨_, _, rfl, by simp, trivial, fun j u hu => ?_⟩⟩
  match j, hu with
  | 0, hu => simp [starS] at hu; subst hu; simp
  | j + 1, hu => simp at hu
def RowsOk (t : Tree) : Prop := ∀ (P : Nat → Nat → Prop) (w : World) (s : Sl), TreeAt w P t s → chk t = 0 → rlB t = false → Calls Tryz.prog 79 #[.agg (ndC t.d s.1 s.2.1 s.2.2)] w (RetStrs (rw1 t) w)
set_option maxHeartbeats 2000000 in
set_option maxRecDepth 100000 in
theorem rows_any : ∀ t, RowsOk t := by
  refine Tree.ind ?_
  intro d ks ih P w ⟨mv, bv, kv⟩ hT hc hr
  obtain ⟨hc1, hck⟩ := chk_ok hc
  have IH := Box.mk ih
  have CK := Box.mk hck
  have HN := Lib.hid (N1.start hT)
  obtain ⟨A1, n1, hmv, l1⟩ := hT.nod.ms.form
  obtain ⟨A2, n2, hbv, l2⟩ := hT.nod.bys.form
  obtain ⟨A3, n3, hkv, l3⟩ := hT.nod.kform
  subst hmv hbv hkv
  have hby8 : d.bys.length ≤ 8 := by
    unfold chk1 at hc1
    split at hc1
    · cases hc1
    split at hc1
    · cases hc1
    split at hc1
    · cases hc1
    omega
  obtain ⟨fin, hfin⟩ : ∃ z, rw1 (.node d ks) = z := ⟨_, rfl⟩
  rw [hfin]
  rw [rw1] at hfin
  rw [rlB] at hr
  have hsh := shape_cases (chk1_shape hc1)
  clear hT ih hck hc1 hc
  simp only [Tree.d]
  go_enter Tryz.func79, Tryz.ntmps79
  go_upto_region 1 with (fail)
  generalize w.alloc (.cells (ndC d _ _ _) 33) = W at HN ⊢
  have c0 := HN.out.c.1
  have c9 := HN.out.c.2.2.2.2.2.2.2.2.2.1
  have c10 := HN.out.c.2.2.2.2.2.2.2.2.2.2
  simp only [Nat.zero_add] at c10 c9
  rcases hsh with ⟨hk, hl⟩ | ⟨hk, hl, -, -⟩ | ⟨hk, hl, -, -⟩ | ⟨hk, hl, -, -⟩
  · rw [if_pos hk] at hr; cases hr
  · rw [hk] at c0
    rw [if_pos hk] at hfin
    have HF := Box.mk hfin
    clear hfin hk hr
    go_wp2_with fail
    go_ret
    exact ⟨_, 1, 1, rfl, by rw [← HF.out]; rfl, by rw [← HF.out]; exact star_at _, HN.out.below.alloc HN.out.below.size _⟩
  · rw [hk] at c0
    rw [if_neg (by omega), if_pos hk] at hfin
    have HF := Box.mk hfin
    clear hfin hk hr
    go_wp2_with fail
    refine (sclone_any _ _ _ d.bys _ (HN.out.nod.bys.mono fun _ _ _ _ => trivial) (by omega)).mono ?_
    rintro e w1 ⟨B, n, c, rfl, hn, hs, hb⟩
    have HR : Box (n = fin.length ∧ StrsP w1 (.slice B n c) fin ∧ Below w.heap.size w w1) := ⟨by rw [← HF.out]; exact hn, by rw [← HF.out]; exact hs, (HN.out.next hb).below⟩
    clear hs hb c0 c9 c10 HN hn
    go_wp2_with fail
    go_ret
    exact ⟨B, n, c, rfl, HR.out.1, HR.out.2.1, HR.out.2.2⟩
  · rw [hk] at c0
    rw [if_neg (by omega), if_neg (by omega)] at hfin
    rw [if_neg (by omega), if_pos hk] at hr
    obtain ⟨e, es, b, off, B1, m1, B2, m2, B3, m3, hx, rfl, hb, hpb, h11, hT'⟩ := kid2 HN.out.nod 0 (by omega)
    obtain ⟨e', es', b', off', B1', m1', B2', m2', B3', m3', hx', hA, hb', hpb', h11', hT2⟩ := kid2 HN.out.nod 1 (by omega)
    cases hA
    have h2 := two_of hl hx hx'
    rw [h2, rlL, rlL, rlL, Bool.and_true] at hr
    rw [h2, rwL, rwL, rwL] at hfin
    obtain ⟨k0, k1, k2, k3, k4, k5, k6, k7, k8, k9, k10⟩ := h11
    obtain ⟨j0, j1, j2, j3, j4, j5, j6, j7, j8, j9, j10⟩ := h11'
    simp only [Nat.zero_mul, Nat.one_mul, Nat.add_zero] at k0 k1 k2 k3 k4 k5 k6 k7 k8 k9 k10 j0 j1 j2 j3 j4 j5 j6 j7 j8 j9 j10
    have HF := Box.mk hfin
    have HR := Box.mk hr
    have HT1 := Box.mk hT'
    have HT2 := Box.mk hT2
    have M1 : Box (Tree.node e es ∈ ks) := ⟨List.mem_of_getElem? hx⟩
    have M2 : Box (Tree.node e' es' ∈ ks) := ⟨List.mem_of_getElem? hx'⟩
    clear hfin hk hT' hT2 hx hx' h2 hr
    have hl0 : (0 : Nat) < ks.length := by omega
    have hl1 : (1 : Nat) < ks.length := by omega
    go_wp2_with fail
    refine (rowless_any _ P _ (.slice B1 e.ms.length m1, .slice B2 e.bys.length m2, .slice B3 es.length m3) HT1.out (CK.out _ M1.out)).mono ?_
    rintro e1 w1 ⟨rfl, hb1⟩
    have HN2 := Lib.hid (HN.out.next hb1)
    have HT4 := Box.mk (HT1.out.belo hb1)
    have HT3 := Box.mk (HT2.out.belo hb1)
    obtain ⟨q, E1⟩ : ∃ z, Box (rlB (.node e es) = z) := ⟨_, ⟨rfl⟩⟩
    rw [E1.out]
    clear c0 c9 c10
    have c10 := HN2.out.c.2.2.2.2.2.2.2.2.2.2
    simp only [Nat.zero_add] at c10
    cases q
    · have p0 := bat hb1 hb k0
      have p1 := bat hb1 hb k1
      have p2 := bat hb1 hb k2
      have p3 := bat hb1 hb k3
      have p4 := bat hb1 hb k4
      have p5 := bat hb1 hb k5
      have p6 := bat hb1 hb k6
      have p7 := bat hb1 hb k7
      have p8 := bat hb1 hb k8
      have p9 := bat hb1 hb k9
      have p10 := bat hb1 hb k10
      clear hb1 j0 j1 j2 j3 j4 j5 j6 j7 j8 j9 j10 k0 k1 k2 k3 k4 k5 k6 k7 k8 k9 k10 HN
      go_wp2_with fail
      refine (IH.out _ M1.out P _ (.slice B1 e.ms.length m1, .slice B2 e.bys.length m2, .slice B3 es.length m3) HT4.out (CK.out _ M1.out) E1.out).mono ?_
      intro e1 w2 hs
      have HS := Box.mk ((hs.after HN2.out.below).of (l' := fin) (by rw [← HF.out, E1.out]; rfl))
      obtain ⟨B, n, c, rfl, -⟩ := id hs
      clear hs HN2 c10 p0 p1 p2 p3 p4 p5 p6 p7 p8 p9 p10
      go_wp2_with fail
      go_ret
      exact HS.out
    · have p0 := bat hb1 hb' j0
      have p1 := bat hb1 hb' j1
      have p2 := bat hb1 hb' j2
      have p3 := bat hb1 hb' j3
      have p4 := bat hb1 hb' j4
      have p5 := bat hb1 hb' j5
      have p6 := bat hb1 hb' j6
      have p7 := bat hb1 hb' j7
      have p8 := bat hb1 hb' j8
      have p9 := bat hb1 hb' j9
      have p10 := bat hb1 hb' j10
      have E2 : Box (rlB (.node e' es') = false) := ⟨by have := HR.out; rw [E1.out] at this; simpa using this⟩
      clear hb1 j0 j1 j2 j3 j4 j5 j6 j7 j8 j9 j10 k0 k1 k2 k3 k4 k5 k6 k7 k8 k9 k10 HN
      go_wp2_with fail
      refine (IH.out _ M2.out P _ (.slice B1' e'.ms.length m1', .slice B2' e'.bys.length m2', .slice B3' es'.length m3') HT3.out (CK.out _ M2.out) E2.out).mono ?_
      intro e1 w2 hs
      have HS := Box.mk ((hs.after HN2.out.below).of (l' := fin) (by rw [← HF.out, E1.out, E2.out]; rfl))
      obtain ⟨B, n, c, rfl, -⟩ := id hs
      clear hs HN2 c10 p0 p1 p2 p3 p4 p5 p6 p7 p8 p9 p10
      go_wp2_with fail
      go_ret
      exact HS.out
def sameB : List ByteArray → List ByteArray → Bool
  | [], [] => true
  | x :: xs, y :: ys => (x.toList == y.toList) && sameB xs ys
  | _, _ => false
theorem same_eq (a b : List ByteArray) : sameB a b = decide (a = b) := by
  induction a generalizing b with
  | nil => cases b <;> simp [sameB]
  | cons x xs ih =>
    cases b with
    | nil => simp [sameB]
    | cons y ys =>
      rw [sameB, ih, str_beq, Bool.eq_iff_iff]
      simp
theorem StrsP.len {w : World} {A : Option Addr} {n c : Nat} {l : List ByteArray} (h : StrsP w (.slice A n c) l) : n = l.length ∧ n ≤ 9223372036854775807 := by
  obtain ⟨_, _, _, hv, h1, h2, _⟩ := h
  cases hv
  unfold maxLen at h2
  exact ⟨rfl, by omega⟩
theorem StrsP.at_ {w : World} {A : Option Addr} {n c : Nat} {l : List ByteArray} (h : StrsP w (.slice A n c) l) (k : Nat) (hk : k < l.length) : ∃ x b off, l[k]? = some x ∧ A = some ⟨b, off, none⟩ ∧ b < w.heap.size ∧ w.cell? ⟨b, off + k, none⟩ = some (.string x) := by
  obtain ⟨x, hx⟩ : ∃ x, l[k]? = some x := ⟨l[k], List.getElem?_eq_getElem _⟩
  obtain ⟨b, off, h1, h2, h3⟩ := SeqP.at1 h k (.string x) (by simp [hx])
  exact ⟨x, b, off, hx, h1, h2, h3⟩
theorem drop_at {α : Type} {l : List α} {k : Nat} {x : α} (hx : l[k]? = some x) : l.drop k = x :: l.drop (k + 1) := by
  obtain ⟨h1, h2⟩ := List.getElem?_eq_some_iff.1 hx
  rw [List.drop_eq_getElem_cons h1, h2]
set_option maxHeartbeats 1000000 in
theorem equal_any (A : Option Addr) (n c : Nat) (A' : Option Addr) (n' c' : Nat) (l l' : List ByteArray) (w : World) (h : StrsP w (.slice A n c) l) (h' : StrsP w (.slice A' n' c') l') :
    Calls Tryz.prog 170 #[.slice A n c, .slice A' n' c'] w (RetB (.bool (sameB l l')) w) := by
  obtain ⟨hn, hm⟩ := h.len
  obtain ⟨hn', hm'⟩ := h'.len
  have HS := Box.mk (And.intro h h')
  clear h h'
  by_cases hl : n = n'
  · subst hl
    have HN := Box.mk (And.intro hn hn')
    clear hn hn'
    have hne : ((n : Int) != (n : Int)) = false := by simp
    go_enter Tryz.func170, Tryz.ntmps170
    go_wp2_with fail
    go_loopw [13] (fun v wr => ∃ k : Nat, k ≤ n ∧ v = .int .i64 (k : Nat) ∧ Below w.heap.size w wr ∧ Box (sameB (l.drop k) (l'.drop k) = sameB l l')) (fun v _ => n - (intOf v).toNat)
    case atStart => exact ⟨0, by omega, rfl, Below.refl _ _, ⟨rfl⟩⟩
    case round =>
      obtain ⟨k, hk, rfl, hb, HA⟩ := hrel
      have HB := Lib.hid hb
      by_cases hlt : k < n
      · obtain ⟨x, b1, off1, hx, rfl, hb1, p1⟩ := (HS.out.1.below hb).at_ k (by rw [← HN.out.1]; exact hlt)
        obtain ⟨y, b2, off2, hy, rfl, hb2, p2⟩ := (HS.out.2.below hb).at_ k (by rw [← HN.out.2]; exact hlt)
        have HD := Box.mk (And.intro (drop_at hx) (drop_at hy))
        have hlt2 : (k : Int) < (n : Int) := by omega
        clear hb hx hy
        obtain ⟨q, E⟩ : ∃ z, Box ((x.toList == y.toList) = z) := ⟨_, ⟨rfl⟩⟩
        cases q
        · have hq := E.out
          have hq2 : (x.toList != y.toList) = true := by rw [bne, hq]; rfl
          go_wp2_with fail
          first | go_region | skip
          all_goals
            go_wp2_with fail
            go_ret
            exact ⟨ret_bool (by rw [← HA.out, HD.out.1, HD.out.2, sameB, E.out]; rfl), by first | exact HB.out | exact bdrew HB.out 1⟩
        · have hq := E.out
          have hq2 : (x.toList != y.toList) = false := by rw [bne, hq]; rfl
          go_wp2_with fail
          first | go_region | skip
          all_goals
            go_wp2_with fail
            go_roundw
            case rel => exact ⟨k + 1, by omega, by go_num, by first | exact HB.out | exact bdrew HB.out 1, ⟨by rw [← HA.out, HD.out.1, HD.out.2, sameB, E.out]; rfl⟩⟩
            case measure => simp [intOf]; omega
      · have hlt2 : ¬ (k : Int) < (n : Int) := by omega
        clear hb
        go_wp2_with fail
        go_ret
        exact ⟨ret_bool (by rw [← HA.out, List.drop_eq_nil_of_le (by rw [← HN.out.1]; omega), List.drop_eq_nil_of_le (by rw [← HN.out.2]; omega)]; rfl), HB.out⟩
  · have hne : ((n : Int) != (n' : Int)) = true := by simp; omega
    have E : Box (sameB l l' = false) := ⟨by rw [same_eq]; apply decide_eq_false; intro h; rw [h] at hn; omega⟩
    go_enter Tryz.func170, Tryz.ntmps170
    go_wp2_with fail
    go_ret
    exact ⟨ret_bool E.out.symm, Below.refl _ _⟩
def byN (t : Tree) : Bool := validE t == 0 && rlB t
def byL (t : Tree) : List ByteArray := if validE t = 0 ∧ rlB t = false then rw1 t else []
def RetBy (t : Tree) (w : World) (e : Ending) (w' : World) : Prop := ∃ A n c, e = .returned (.tuple #[.slice A n c, .bool (byN t)]) ∧ n = (byL t).length ∧ StrsP w' (.slice A n c) (byL t) ∧ Below w.heap.size w w'
theorem retBy {t : Tree} {w w' : World} {A : Option Addr} {n c : Nat} {q : Bool} {l : List ByteArray} (h1 : byN t = q) (h2 : byL t = l) (h3 : n = l.length) (h4 : StrsP w' (.slice A n c) l) (h5 : Below w.heap.size w w') : RetBy t w (.returned (.tuple #[.slice A n c, .bool q])) w' := by
  subst h1 h2; exact ⟨A, n, c, rfl, h3, h4, h5⟩
set_option maxHeartbeats 1000000 in
theorem by_any (t : Tree) (P : Nat → Nat → Prop) (w : World) (s : Sl) (hT : TreeAt w P t s) (hw : WordsG w) : Calls Tryz.prog 35 #[.agg (ndC t.d s.1 s.2.1 s.2.2)] w (RetBy t w) := by
  obtain ⟨d, ks⟩ := t
  obtain ⟨mv, bv, kv⟩ := s
  have HW := Box.mk hw
  have HN := Lib.hid (N1.start hT)
  clear hT hw
  simp only [Tree.d]
  go_enter Tryz.func35, Tryz.ntmps35
  go_upto_region 1 with (fail)
  generalize w.alloc (.cells (ndC d _ _ _) 33) = W at HN ⊢
  obtain ⟨c0, c1, c2, c3, c4, c5, c6, c7, c8, c9, c10⟩ := HN.out.c
  simp only [Nat.zero_add] at c1 c2 c3 c4 c5 c6 c7 c8 c9 c10
  go_wp2_with fail
  refine (pvalid_any (.node d ks) P _ (mv, bv, kv) HN.out.nod.tree (HW.out.below HN.out.below)).mono ?_
  rintro e w1 ⟨rfl, hb⟩
  clear c0 c1 c2 c3 c4 c5 c6 c7 c8 c9 c10
  have HN2 := Lib.hid (HN.out.next hb); clear HN hb
  obtain ⟨q, E1⟩ : ∃ z, Box (validE (.node d ks) = z) := ⟨_, ⟨rfl⟩⟩
  rw [E1.out]
  by_cases hq : q = 0
  · subst hq
    have CK : Box (chk (.node d ks) = 0) := ⟨by
      have h := E1.out
      unfold validE at h
      split at h
      · cases h
      · exact h⟩
    obtain ⟨c0, c1, c2, c3, c4, c5, c6, c7, c8, c9, c10⟩ := HN2.out.c
    simp only [Nat.zero_add] at c1 c2 c3 c4 c5 c6 c7 c8 c9 c10
    go_wp2_with fail
    refine (rowless_any (.node d ks) P _ (mv, bv, kv) HN2.out.nod.tree CK.out).mono ?_
    rintro e w2 ⟨rfl, hb⟩
    clear c0 c1 c2 c3 c4 c5 c6 c7 c8 c9 c10
    have HN := Lib.hid (HN2.out.next hb); clear HN2 hb
    obtain ⟨q, E2⟩ : ∃ z, Box (rlB (.node d ks) = z) := ⟨_, ⟨rfl⟩⟩
    rw [E2.out]
    cases q
    · obtain ⟨c0, c1, c2, c3, c4, c5, c6, c7, c8, c9, c10⟩ := HN.out.c
      simp only [Nat.zero_add] at c1 c2 c3 c4 c5 c6 c7 c8 c9 c10
      go_wp2_with fail
      refine (rows_any (.node d ks) P _ (mv, bv, kv) HN.out.nod.tree CK.out E2.out).mono ?_
      rintro e w3 ⟨A, n, c, rfl, hn, hs, hb⟩
      clear c0 c1 c2 c3 c4 c5 c6 c7 c8 c9 c10
      have HB := Lib.hid (HN.out.next hb).below; clear HN hb
      have HS := Box.mk (And.intro hn hs); clear hn hs
      go_wp2_with fail
      exact bodyPost_ret (v := .tuple #[.slice A n c, .bool false]) (by simp [results, Tryz.results35, go_sem]) rfl (retBy (by unfold byN; rw [E1.out, E2.out]; rfl) (by unfold byL; rw [if_pos ⟨E1.out, E2.out⟩]) HS.out.1 HS.out.2 HB.out)
    · go_wp2_with fail
      exact bodyPost_ret (v := .tuple #[.slice none 0 0, .bool true]) (by simp [results, Tryz.results35, go_sem]) rfl (retBy (l := []) (by unfold byN; rw [E1.out, E2.out]; rfl) (by unfold byL; rw [if_neg (by rw [E2.out]; simp)]) rfl (SeqP.nil _ _ _) HN.out.below)
  · have hq2 : (q != 0) = true := by simpa using hq
    have hq3 : (q == 0) = false := by simpa using hq
    go_wp2_with fail
    exact bodyPost_ret (v := .tuple #[.slice none 0 0, .bool false]) (by simp [results, Tryz.results35, go_sem]) rfl (retBy (l := []) (by unfold byN; rw [E1.out, hq3]; rfl) (by unfold byL; rw [if_neg (by rw [E1.out]; simp [hq])]) rfl (SeqP.nil _ _ _) HN2.out.below)
end
end Go.Proofs.YtcifgobinleldaaGreatDoor
