/- Contracts, packed: Jg. -/
import Derived.Test.YtkdojgkiclndfaaGreatDoorPx30
set_option linter.unusedVariables false
set_option linter.unusedSimpArgs false
namespace Go.Proofs.YtkdojgkiclndfaaGreatDoor
section
open Go.RowKit FracM
set_option maxHeartbeats 4000000 in
set_option maxRecDepth 100000 in
theorem pprt_any : ∀ t, ∀ (P : Nat → Nat → Prop) (w : World) (s : Sl), TreeAt w P t s → Calls Tryz.prog 32 #[.agg (ndC t.d s.1 s.2.1 s.2.2)] w (RetB (.bool (prtB t)) w) := by
 refine Tree.ind ?_
 intro d ks ih P w ⟨mv, bv, kv⟩ hT
 have IH := Box.mk ih
 have HN := Lib.hid (N1.start hT)
 obtain ⟨A1, n1, hmv, l1⟩ := hT.nod.ms.form
 obtain ⟨A2, n2, hbv, l2⟩ := hT.nod.bys.form
 obtain ⟨A3, n3, hkv, l3⟩ := hT.nod.kform
 subst hmv hbv hkv
 obtain ⟨fin, hfin⟩ : ∃ z, prtB (.node d ks) = z := ⟨_, rfl⟩
 rw [hfin]
 rw [prtB] at hfin
 clear hT ih
 simp only [Tree.d]
 by_cases hk : d.kind = 0
 ·rw [if_pos hk] at hfin
  have hk2 : (d.kind == 0) = true := by simpa using hk
  by_cases h1 : decide (-1073741824 ≤ d.num) = true
  ·by_cases h2 : decide (d.num ≤ 1073741824) = true
   ·have E : Box (decide (d.den ≤ 1073741824) = fin) := ⟨by rw [← hfin]; unfold writB; rw [h1, h2]; simp⟩
    clear hk hfin
    go_enter Tryz.func32, Tryz.ntmps32
    go_upto_region 1 with (fail)
    generalize w.alloc (.cells (ndC d _ _ _) 33) = W at HN ⊢
    obtain ⟨c0, c1, c2, c3, c4, c5, c6, c7, c8, c9, c10⟩ := HN.out.c
    simp only [Nat.zero_add] at c5 c6
    go_wp2_with fail
    go_ret
    exact ⟨ret_bool (by rw [← E.out]), HN.out.below⟩
   ·replace h2 : decide (d.num ≤ 1073741824) = false := by simpa using h2
    have E : Box (false = fin) := ⟨by rw [← hfin]; unfold writB; rw [h1, h2]; simp⟩
    clear hk hfin
    go_enter Tryz.func32, Tryz.ntmps32
    go_upto_region 1 with (fail)
    generalize w.alloc (.cells (ndC d _ _ _) 33) = W at HN ⊢
    obtain ⟨c0, c1, c2, c3, c4, c5, c6, c7, c8, c9, c10⟩ := HN.out.c
    simp only [Nat.zero_add] at c5 c6
    go_wp2_with fail
    go_ret
    exact ⟨ret_bool (by rw [← E.out]), HN.out.below⟩
  ·replace h1 : decide (-1073741824 ≤ d.num) = false := by simpa using h1
   have E : Box (false = fin) := ⟨by rw [← hfin]; unfold writB; rw [h1]; simp⟩
   clear hk hfin
   go_enter Tryz.func32, Tryz.ntmps32
   go_upto_region 1 with (fail)
   generalize w.alloc (.cells (ndC d _ _ _) 33) = W at HN ⊢
   obtain ⟨c0, c1, c2, c3, c4, c5, c6, c7, c8, c9, c10⟩ := HN.out.c
   simp only [Nat.zero_add] at c5 c6
   go_wp2_with fail
   go_ret
   exact ⟨ret_bool (by rw [← E.out]), HN.out.below⟩
 rw [if_neg hk] at hfin
 have HF := Box.mk hfin
 have hk2 : (d.kind == 0) = false := by simpa using hk
 clear hk hfin
 go_enter Tryz.func32, Tryz.ntmps32
 go_upto_region 1 with (fail)
 generalize w.alloc (.cells (ndC d _ _ _) 33) = W at HN ⊢
 obtain ⟨c0, c1, c2, c3, c4, c5, c6, c7, c8, c9, c10⟩ := HN.out.c
 simp only [Nat.zero_add] at c10
 clear c1 c2 c3 c4 c5 c6 c7 c8 c9
 go_wp2_with fail
 go_loopw [27] (fun v wr => ∃ k : Nat, k ≤ ks.length ∧ v = .int .i64 (k : Nat) ∧ N1 w wr P d ks (.slice A1 d.ms.length n1) (.slice A2 d.bys.length n2) (.slice A3 ks.length n3) ∧ Box (prtL (ks.drop k) = fin)) (fun v _ => ks.length - (intOf v).toNat)
 case atStart => exact ⟨0, by omega, rfl, HN.out, HF⟩
 case round =>
  clear HN c0 c10 HF
  obtain ⟨k, hk, rfl, hN, HA⟩ := hrel
  have HN := Lib.hid hN; clear hN
  by_cases hlt : k < ks.length
  ·obtain ⟨x, hx⟩ : ∃ x, ks[k]? = some x := ⟨ks[k], List.getElem?_eq_getElem _⟩
   obtain ⟨e, es⟩ := x
   obtain ⟨b, off, mv', bv', kv', rfl, hb, hpb, ⟨k0, k1, k2, k3, k4, k5, k6, k7, k8, k9, k10⟩, hT'⟩ := HN.out.nod.kid k e es hx
   obtain ⟨B1, m1, rfl, -⟩ := hT'.nod.ms.form
   obtain ⟨B2, m2, rfl, -⟩ := hT'.nod.bys.form
   obtain ⟨B3, m3, rfl, -⟩ := hT'.nod.kform
   have HT' := Box.mk hT'
   have HX := Box.mk hx
   have hlt2 : (k : Int) < (ks.length : Int) := by omega
   have HD : Box (ks.drop k = .node e es :: ks.drop (k + 1)) := ⟨by
    rw [List.drop_eq_getElem_cons hlt, (List.getElem?_eq_some_iff.1 hx).2]⟩
   clear hT' hx
   go_upto_region 6 with (fail)
   have HN3 := Lib.hid (HN.out.next (bel1 wr (.cells (ndC e (.slice B1 e.ms.length m1) (.slice B2 e.bys.length m2) (.slice B3 es.length m3)) 33)))
   have HT3 := Box.mk (HT'.out.belo (bel1 wr (.cells (ndC e (.slice B1 e.ms.length m1) (.slice B2 e.bys.length m2) (.slice B3 es.length m3)) 33)))
   have HK3 : Hid (Blk (wr.alloc (.cells (ndC e (.slice B1 e.ms.length m1) (.slice B2 e.bys.length m2) (.slice B3 es.length m3)) 33)) wr.heap.size 33 (ndC e (.slice B1 e.ms.length m1) (.slice B2 e.bys.length m2) (.slice B3 es.length m3))) := Blk.new _ _ _
   clear HN HT' k0 k1 k2 k3 k4 k5 k6 k7 k8 k9 k10
   generalize wr.heap.size = G at *
   generalize wr.alloc (.cells (ndC e (.slice B1 e.ms.length m1) (.slice B2 e.bys.length m2) (.slice B3 es.length m3)) 33) = W3 at *
   obtain ⟨k0, k1, k2, k3, k4, k5, k6, k7, k8, k9, k10⟩ := blk11 HK3.out
   simp only [Nat.zero_add] at k1 k2 k3 k4 k5 k6 k7 k8 k9 k10
   go_wp2_with fail
   refine (IH.out (.node e es) (List.mem_of_getElem? HX.out) P _ (.slice B1 e.ms.length m1, .slice B2 e.bys.length m2, .slice B3 es.length m3) HT3.out).mono ?_
   rintro e1 w1 ⟨rfl, hb1⟩
   have HN4 := Lib.hid (HN3.out.next hb1)
   clear HN3 hb1 k0 k1 k2 k3 k4 k5 k6 k7 k8 k9 k10 HK3
   obtain ⟨q, E1⟩ : ∃ z, Box (prtB (.node e es) = z) := ⟨_, ⟨rfl⟩⟩
   rw [E1.out]
   cases q
   ·go_wp2_with fail
    go_ret
    exact ⟨ret_bool (by rw [← HA.out, HD.out, prtL, E1.out]; rfl), HN4.out.below⟩
   ·go_wp2_with fail
    go_roundw
    case rel => exact ⟨k + 1, by omega, by go_num, HN4.out, ⟨by rw [← HA.out, HD.out, prtL, E1.out]; simp⟩⟩
    case measure => simp [intOf]; omega
  ·have hlt2 : ¬ (k : Int) < (ks.length : Int) := by omega
   go_wp2_with fail
   go_ret
   exact ⟨ret_bool (by rw [← HA.out, List.drop_eq_nil_of_le (by omega), prtL]), HN.out.below⟩
/-- what Print hands back -/
def RetPr (t : Tree) (w : World) (e : Ending) (w' : World) : Prop := e = .returned (.tuple #[.string (bsL (printT t).1), .int .i64 (printT t).2]) ∧ Below w.heap.size w w'
theorem groups_eq : groupsL = groupsT.map bsL := rfl
theorem libP_g {w : World} (h : LibP w) : WordsG w := by
 have g : ∀ (k : Nat) (x : ByteArray), groupsL[k]? = some x → w.cell? ⟨3, k, none⟩ = some (.string x) := fun k x hx => by
  rw [groups_eq, List.getElem?_map] at hx
  cases hy : groupsT[k]? with
  | none => rw [hy] at hx; cases hx
  | some y => rw [hy] at hx; cases hx; exact h.grp.2 k y hy
 refine ⟨⟨fun k hk => ?_, h.grp.1, h.grp.1⟩, g⟩
 match k, hk with
 | 0, _ => exact ⟨_, g 0 _ rfl, by decide +kernel⟩
 | 1, _ => exact ⟨_, g 1 _ rfl, by decide +kernel⟩
 | 2, _ => exact ⟨_, g 2 _ rfl, by decide +kernel⟩
 | 3, _ => exact ⟨_, g 3 _ rfl, by decide +kernel⟩
 | 4, _ => exact ⟨_, g 4 _ rfl, by decide +kernel⟩
theorem name_sz {s : ByteArray} (h : nameB s = true) : s.size ≤ 16 := by
 unfold nameB at h; simp only [Bool.and_eq_true, decide_eq_true_eq] at h; exact h.1.2
theorem value_sz {s : ByteArray} (h : valueB s = true) : s.size ≤ 16 := by
 unfold valueB at h; simp only [Bool.and_eq_true, decide_eq_true_eq] at h; omega
theorem matL_len {m : Mat} (h : vmatB m = true) : (matL m).length ≤ 40 := by
 unfold vmatB at h
 simp only [Bool.and_eq_true] at h
 have h1 := name_sz h.1.1
 have h2 := value_sz h.2
 have h3 := symSz m.2.1.toNat
 unfold matL
 rw [← data_size] at h1 h2
 simp only [List.length_append, List.length_cons, List.length_nil]
 omega
theorem matsR_len {ms : List Mat} (h : ∀ m ∈ ms, vmatB m = true) : (matsR ms).length ≤ 41 * ms.length + 1 := by
 induction ms with
 | nil => simp [matsR]
 | cons m ms ih =>
  have h1 := matL_len (h m (by simp))
  have h2 := ih fun x hx => h x (by simp [hx])
  rw [matsR]
  simp only [List.length_append, List.length_cons]
  omega
theorem matsL_len {ms : List Mat} (h : ∀ m ∈ ms, vmatB m = true) (hl : ms.length ≤ 8) : (matsL ms).length ≤ 400 := by
 cases ms with
 | nil => simp [matsL]
 | cons m ms =>
  have h1 := matL_len (h m (by simp))
  have h2 := matsR_len (ms := ms) fun x hx => h x (by simp [hx])
  rw [matsL]
  simp only [List.length_append, List.length_cons] at hl ⊢
  omega
theorem bysFrom_names {l : List ByteArray} : ∀ {p : Option ByteArray}, bysFrom p l = true → ∀ x ∈ l, nameB x = true := by
 induction l with
 | nil => intro p h x hx; cases hx
 | cons y ys ih =>
  intro p h x hx
  simp only [bysFrom, Bool.and_eq_true] at h
  rcases List.mem_cons.1 hx with rfl | hx
  ·exact h.1.1
  ·exact ih h.2 x hx
theorem bysR_len {l : List ByteArray} (h : ∀ x ∈ l, nameB x = true) : (bysR l).length ≤ 17 * l.length + 1 := by
 induction l with
 | nil => simp [bysR]
 | cons x xs ih =>
  have h1 := name_sz (h x (by simp))
  have h2 := ih fun y hy => h y (by simp [hy])
  rw [← data_size] at h1
  rw [bysR]
  simp only [List.length_append, List.length_cons]
  omega
theorem bysL_len {l : List ByteArray} (h : ∀ x ∈ l, nameB x = true) (hl : l.length ≤ 8) : (bysL l).length ≤ 200 := by
 cases l with
 | nil => simp [bysL]
 | cons x xs =>
  have h1 := name_sz (h x (by simp))
  have h2 := bysR_len (l := xs) fun y hy => h y (by simp [hy])
  rw [← data_size] at h1
  rw [bysL]
  simp only [List.length_append, List.length_cons, List.length_nil] at hl ⊢
  omega
theorem absI_bd {n : Int} (h : n.natAbs ≤ 4611686018427387904) : -9223372036854775808 ≤ absI n ∧ absI n ≤ 9223372036854775807 := by unfold absI; split <;> omega
theorem grpSz (k : Nat) : (groupsT.getD k []).length ≤ 10 := by
 rw [List.getD_eq_getElem?_getD]
 match k with
 | 0 => decide
 | 1 => decide
 | 2 => decide
 | 3 => decide
 | 4 => decide
 | n + 5 => simp [groupsT]
theorem oprSz (k : Nat) : (opersT.getD k []).length ≤ 1 := by
 rw [List.getD_eq_getElem?_getD]
 match k with
 | 0 => decide
 | 1 => decide
 | 2 => decide
 | 3 => decide
 | n + 4 => simp [opersT]
theorem node_len {d : Nd} {n : Nat} (h : chk1 d n = 0) : (d.kind = 0 → (numL d.num d.den).length ≤ 500) ∧ (d.kind = 1 → (selL d).length ≤ 600) ∧ (d.kind = 2 → (grpL d).length ≤ 490) := by
 obtain ⟨a1, a2, a3, a4, a5⟩ := chk1_all h
 have a2' := a2
 unfold namedB at a2'
 simp only [Bool.and_eq_true, List.all_eq_true] at a2'
 refine ⟨fun hk => ?_, fun hk => ?_, fun hk => ?_⟩
 ·obtain ⟨v1, v2, v3, v4⟩ := valid_iff.1 (shaped_num a1 hk)
  unfold M at v2 v3
  have hb := absI_bd v3
  have i1 := itoa_sz (absI d.num) hb.1 hb.2
  have i2 := itoa_sz d.den (by omega) (by omega)
  unfold numL
  split
  ·next hn =>
   unfold natE at hn
   simp only [Bool.and_eq_true, decide_eq_true_eq] at hn
   have := itoa_sz d.num (by omega) (by omega)
   omega
  ·unfold numB
   simp only [List.length_cons, List.length_append, List.length_nil]
   split <;> split <;> simp only [List.length_cons, List.length_nil] <;> omega
 ·have hr : 0 ≤ d.off ∧ d.off ≤ 4096 ∧ (d.fn ≠ 0 → 1 ≤ d.win ∧ d.win ≤ 4096) ∧ (d.fn = 7 → 1 ≤ d.k ∧ d.k ≤ 4096) := by
   unfold rangedB at a5
   rw [if_pos hk] at a5
   simp only [Bool.and_eq_true, decide_eq_true_eq] at a5
   refine ⟨a5.1.1, a5.1.2, fun hf => ?_, fun hf => ?_⟩
   ·have := a5.2; rw [if_neg hf] at this; simp only [Bool.and_eq_true, decide_eq_true_eq] at this; omega
   ·have := a5.2; rw [if_neg (by omega), if_pos hf] at this; simp only [Bool.and_eq_true, decide_eq_true_eq] at this; omega
  have hname : d.name.size ≤ 16 := name_sz (by have := a2'.1.1; rw [show (d.kind == 1) = true by simpa using hk] at this; simp at this; exact this.1)
  have m1 := matsL_len a2'.1.2 a3
  have f1 := funSz d.fn.toNat
  rw [← data_size] at hname
  have o1 : (offL d.off).length ≤ 22 := by
   unfold offL; split
   ·simp
   ·have := itoa_sz d.off (by omega) (by omega); simp only [List.length_cons]; omega
  have w1 : (funL d.fn d.win d.k).length ≤ 70 := by
   unfold funL; split
   ·simp
   ·next hf =>
    have i1 := itoa_sz d.win (by have := hr.2.2.1 hf; omega) (by have := hr.2.2.1 hf; omega)
    simp only [List.length_cons, List.length_append, List.length_nil]
    split
    ·next h7 =>
     have i2 := itoa_sz d.k (by have := hr.2.2.2 h7; omega) (by have := hr.2.2.2 h7; omega)
     simp only [List.length_cons]; omega
    ·simp only [List.length_nil]; omega
  unfold selL
  simp only [List.length_append]
  omega
 ·have b1 := bysL_len (bysFrom_names a2'.2) a4
  have g1 := grpSz d.fn.toNat
  unfold grpL
  simp only [List.length_append]
  split
  ·next h4 =>
   have hr : 1 ≤ d.k ∧ d.k ≤ 4096 := by
    unfold rangedB at a5
    rw [if_neg (by omega), if_pos hk, if_pos h4] at a5
    simpa [Bool.and_eq_true, decide_eq_true_eq] using a5
   have i1 := itoa_sz d.k (by omega) (by omega)
   simp only [List.length_cons, List.length_append, List.length_nil]
   omega
  ·split <;> simp only [List.length_cons, List.length_nil] <;> omega
theorem encl_len (q : Bool) (l : List UInt8) : (encl q l).length ≤ l.length + 2 := by cases q <;> simp [encl]
theorem show_len : ∀ t, chk t = 0 → (showT t).length ≤ 600 * nds t := Tree.ind fun d ks ih h => by
 obtain ⟨h1, h2⟩ := chk_ok h
 obtain ⟨n0, n1, n2⟩ := node_len h1
 rw [showT, nds]
 unfold joinN
 rcases shape_cases (chk1_all h1).1 with hk | hk | hk | hk
 ·rw [if_pos hk.1]; have := n0 hk.1; omega
 ·rw [if_neg (by omega), if_pos hk.1]; have := n1 hk.1; omega
 ·rw [if_neg (by omega), if_neg (by omega), if_pos hk.1]
  match ks, hk.2.1 with
  | [t], _ =>
   have := ih t (by simp) (h2 t (by simp))
   have h3 := n2 hk.1
   simp only [showL, ndsL, List.headD_cons, List.length_append, List.length_cons, List.length_nil]
   omega
 ·rw [if_neg (by omega), if_neg (by omega), if_neg (by omega)]
  match ks, hk.2.1 with
  | [a, b], _ =>
   have i1 := ih a (by simp) (h2 a (by simp))
   have i2 := ih b (by simp) (h2 b (by simp))
   have e1 := encl_len (decide (precT a.d < precT d)) (showT a)
   have e2 := encl_len (decide (precT b.d ≤ precT d)) (showT b)
   have o1 := oprSz d.fn.toNat
   simp only [showL, ndsL, List.map_cons, List.map_nil, List.length_append]
   omega
theorem valid_parts {t : Tree} (h : validE t = 0) : chk t = 0 ∧ nds t ≤ 200 ∧ dep t ≤ 12 := by
 unfold validE at h
 cases hf : fitB t
 ·rw [hf] at h; simp at h
 ·rw [hf] at h
  unfold fitB at hf
  simp only [Bool.and_eq_true, decide_eq_true_eq] at hf
  exact ⟨by simpa using h, hf⟩
set_option maxHeartbeats 4000000 in
set_option maxRecDepth 100000 in
theorem pprint_any (t : Tree) (P : Nat → Nat → Prop) (w : World) (s : Sl) (hT : TreeAt w P t s) (hl : LibP w) : Calls Tryz.prog 16 #[.agg (ndC t.d s.1 s.2.1 s.2.2)] w (RetPr t w) := by
 obtain ⟨d, ks⟩ := t
 obtain ⟨mv, bv, kv⟩ := s
 obtain ⟨A1, n1, rfl, l1⟩ := hT.nod.ms.form
 obtain ⟨A2, n2, rfl, l2⟩ := hT.nod.bys.form
 obtain ⟨A3, n3, rfl, l3⟩ := hT.nod.kform
 have HN := Lib.hid (N1.start hT)
 have HL := Box.mk hl
 obtain ⟨ve, hve⟩ : ∃ z, validE (.node d ks) = z := ⟨_, rfl⟩
 have HV := Box.mk hve
 clear hT hl hve
 show Calls _ _ #[.agg (ndC d _ _ _)] _ _
 go_enter Tryz.func16, Tryz.ntmps16
 go_upto_region 1 with (fail)
 generalize w.alloc (.cells (ndC d _ _ _) 33) = W at HN ⊢
 obtain ⟨c0, c1, c2, c3, c4, c5, c6, c7, c8, c9, c10⟩ := HN.out.c
 simp only [Nat.zero_add] at c1 c2 c3 c4 c5 c6 c7 c8 c9 c10
 go_wp2_with fail
 refine (pvalid_any (.node d ks) P _ (_, _, _) HN.out.nod.tree (libP_g (HL.out.below HN.out.below))).mono ?_
 rintro e w1 ⟨rfl, hb⟩
 clear c0 c1 c2 c3 c4 c5 c6 c7 c8 c9 c10
 have HN2 := Lib.hid (HN.out.next hb); clear HN hb
 rw [HV.out]
 by_cases hv : ve = 0
 ·subst hv
  obtain ⟨c0, c1, c2, c3, c4, c5, c6, c7, c8, c9, c10⟩ := HN2.out.c
  simp only [Nat.zero_add] at c1 c2 c3 c4 c5 c6 c7 c8 c9 c10
  go_wp2_with fail
  refine (pprt_any (.node d ks) P _ (_, _, _) HN2.out.nod.tree).mono ?_
  rintro e w2 ⟨rfl, hb⟩
  clear c0 c1 c2 c3 c4 c5 c6 c7 c8 c9 c10
  have HN := Lib.hid (HN2.out.next hb); clear HN2 hb
  obtain ⟨pb, hpb⟩ : ∃ z, prtB (.node d ks) = z := ⟨_, rfl⟩
  have HPB := Box.mk hpb
  rw [hpb]
  clear hpb
  cases pb
  ·go_wp2_with fail
   go_ret2
   exact ⟨by unfold printT; rw [if_pos HV.out, if_pos HPB.out]; rfl, HN.out.below⟩
  ·obtain ⟨hc, hn, hd⟩ := valid_parts HV.out
   have hsl := show_len _ hc
   have HC : Box (chk (.node d ks) = 0 ∧ (showT (.node d ks)).length ≤ 120000) := ⟨hc, by omega⟩
   clear hc hn hd hsl
   have HPR : Box (printT (.node d ks) = if 2000 < (showT (.node d ks)).length then ([], 4) else (showT (.node d ks), 0)) := ⟨by unfold printT; rw [if_pos HV.out, HPB.out]; simp⟩
   obtain ⟨tx, htx⟩ : ∃ z, showT (.node d ks) = z := ⟨_, rfl⟩
   have HTX := Box.mk htx
   rw [htx] at HC HPR
   clear htx
   go_upto_region 7 with (fail)
   have HB0 : Box (Bd (w2.alloc (.cells #[.pointer none, .slice none 0 0] bT)) w2.heap.size [] ∧ LibQ w2.heap.size (w2.alloc (.cells #[.pointer none, .slice none 0 0] bT)) ∧ N1 w (w2.alloc (.cells #[.pointer none, .slice none 0 0] bT)) P d ks (.slice A1 d.ms.length n1) (.slice A2 d.bys.length n2) (.slice A3 ks.length n3) ∧ TreeAt (w2.alloc (.cells #[.pointer none, .slice none 0 0] bT)) (fun k _ => k < w2.heap.size) (.node d ks) (.slice A1 d.ms.length n1, .slice A2 d.bys.length n2, .slice A3 ks.length n3)) :=
    ⟨bd_new w2, ((HL.out.below HN.out.below).q).keep (bel1 _ _) (Nat.le_refl _), HN.out.next (bel1 _ _), (HN.out.nod.tree.low).keep (Agree.of_below (bel1 _ _))⟩
   have HSZ : Box (w.heap.size ≤ w2.heap.size) := ⟨HN.out.below.size⟩
   clear HN
   generalize w2.alloc (.cells #[.pointer none, .slice none 0 0] bT) = W3 at HB0 ⊢
   generalize w2.heap.size = g at *
   obtain ⟨c0, c1, c2, c3, c4, c5, c6, c7, c8, c9, c10⟩ := HB0.out.2.2.1.c
   simp only [Nat.zero_add] at c1 c2 c3 c4 c5 c6 c7 c8 c9 c10
   go_wp2_with fail
   refine (pwrite_any (.node d ks) _ _ (_, _, _) g [] HB0.out.2.2.2 (fun _ _ h => h) HB0.out.1 HB0.out.2.1 HC.out.1 HPB.out (by rw [HTX.out]; have := HC.out.2; simp only [List.length_nil]; omega)).mono ?_
   rintro e w4 ⟨rfl, hd, hk⟩
   rw [HTX.out, List.nil_append] at hd
   have HB1 : Box (Bd w4 g tx ∧ Below w.heap.size w w4) := ⟨hd, HB0.out.2.2.1.below.trans (hk.below.mono HSZ.out)⟩
   have hsz : Box (g ≤ w4.heap.size) := ⟨Nat.le_of_lt hd.lt⟩
   clear hd hk HB0 c0 c1 c2 c3 c4 c5 c6 c7 c8 c9 c10
   go_wp2_with fail
   refine (Tryz.Builder_Len_f g g _ _ HB1.out.1).mono ?_
   rintro e w5 ⟨rfl, rfl⟩
   have hle : (Lib.byteCells tx).length = tx.length := by simp [Lib.byteCells]
   rw [hle]
   clear hle
   by_cases hbig : 2000 < tx.length
   ·have HE := Box.mk hbig
    have hbig2 : (2000 : Int) < (tx.length : Int) := by omega
    clear hbig
    go_wp2_with fail
    go_ret2
    exact ⟨by rw [HPR.out, if_pos HE.out]; rfl, HB1.out.2⟩
   ·have HE := Box.mk hbig
    have hbig2 : ¬ (2000 : Int) < (tx.length : Int) := by omega
    clear hbig
    go_wp2_with fail
    refine (Tryz.Builder_String_any_f g g tx _ HB1.out.1 hsz.out).mono ?_
    rintro e w6 ⟨rfl, _, hb6⟩
    have HF : Box (Below w.heap.size w w6) := ⟨HB1.out.2.trans (hb6.mono HSZ.out)⟩
    clear hb6
    go_wp2_with fail
    go_ret2
    exact ⟨by rw [HPR.out, if_neg HE.out]; rfl, HF.out⟩
 ·have hv2 : (ve != 0) = true := by simpa using hv
  have HVN : Box (ve ≠ 0) := ⟨hv⟩
  clear hv
  go_wp2_with fail
  go_ret2
  exact ⟨by unfold printT; rw [if_neg (by rw [HV.out]; exact HVN.out), HV.out]; rfl, HN2.out.below⟩
end
end Go.Proofs.YtkdojgkiclndfaaGreatDoor
