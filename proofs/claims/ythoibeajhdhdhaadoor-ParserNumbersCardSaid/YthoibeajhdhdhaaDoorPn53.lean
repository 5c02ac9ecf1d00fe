/- Contracts, packed: Mg. -/
import Derived.Test.YthoibeajhdhdhaaDoorPn52
set_option linter.unusedVariables false
set_option linter.unusedSimpArgs false
namespace Go.Proofs.YthoibeajhdhdhaaDoor
section
open Go.RowKit FracM

theorem eq_fracN (x0 y0 x1 y1 : Int) (w : World) : (Op.equalIn 10000 24 (.agg #[.int .i64 x0, .int .i64 x1]) (.agg #[.int .i64 y0, .int .i64 y1])).run Tryd.prog w = .ok ((x0 == y0) && (x1 == y1)) w := by
  have hS : Tryd.prog.underlying 24 = some (.struct (Tryd.prog.fieldsOf 24)) := by kernel_rfl
  rw [show (10000 : Nat) = 9999 + 1 from rfl, run_equalIn_agg w 9999 24 _ _ hS (by kernel_rfl)]
  simp only [Program.fieldsOf, Tryd.underlying24]
  go_simp
  cases h0 : (x0 == y0) <;> cases h1 : (x1 == y1) <;> simp_all
theorem val_norm {n d : Int} (h : FOk n d) : ValC (normN n d) n d := by
  obtain ⟨ha, h0⟩ := h.abs
  have b1 := h.n1
  have b2 := h.n2
  have b3 := h.d1
  have b4 := h.d2
  have a1 := ha.n1
  have a2 := ha.n2
  unfold normN
  by_cases hn : natE n d = true
  · rw [if_pos hn]
    unfold natE at hn
    simp only [Bool.and_eq_true, beq_iff_eq] at hn
    obtain rfl := hn.1.1
    exact val_num n
  rw [if_neg hn]
  by_cases hs : n < 0
  · have e : -absI n = n := by unfold absI; rw [if_pos hs]; omega
    rw [if_pos hs]
    by_cases hd : d = 1
    · subst hd
      rw [if_pos rfl]
      refine val_bin 1 (numT 0) (numT (absI n)) 0 1 (absI n) 1 n 1 (val_num 0) (val_num _) (.inl ⟨rfl, ?_⟩) (by unfold I64; omega) (by unfold I64; omega) (by unfold I64; omega) (by unfold I64; omega)
      have := sub_zero ha
      rw [e] at this
      unfold subF
      rw [e]
      exact this
    · rw [if_neg hd]
      refine val_bin 1 (numT 0) _ 0 1 (absI n) d n d (val_num 0) (val_bin 3 _ _ (absI n) 1 d 1 (absI n) d (val_num _) (val_num _) (.inr ⟨rfl, div_ints ha⟩) (by unfold I64; omega) (by unfold I64; omega) (by unfold I64; omega) (by unfold I64; omega)) (.inl ⟨rfl, ?_⟩) (by unfold I64; omega) (by unfold I64; omega) (by unfold I64; omega) (by unfold I64; omega)
      have := sub_zero ha
      rw [e] at this
      unfold subF
      rw [e]
      exact this
  · have e : absI n = n := by unfold absI; rw [if_neg hs]
    rw [if_neg hs, e]
    by_cases hd : d = 1
    · subst hd
      rw [if_pos rfl]
      exact val_num n
    · rw [if_neg hd]
      rw [e] at ha
      exact val_bin 3 _ _ n 1 d 1 n d (val_num _) (val_num _) (.inr ⟨rfl, div_ints ha⟩) (by unfold I64; omega) (by unfold I64; omega) (by unfold I64; omega) (by unfold I64; omega)
theorem lst_bsN (l : List UInt8) : lst (bsL l) = l := by unfold bsL; simp [lst]
/-- the memory of the law: variables of fractions and of trees -/
structure Nm (w W : World) (l : List (Nat × Int × Int)) (ts : List (Nat × Tree × Sl)) : Prop where
  below : Below w.heap.size w W
  bx : ∀ x ∈ l, Blk W x.1 24 #[.int .i64 x.2.1, .int .i64 x.2.2]
  tb : ∀ x ∈ ts, TBp W x.1 x.2.1 x.2.2
theorem Nm.next {w W W' : World} {l : List (Nat × Int × Int)} {ts : List (Nat × Tree × Sl)} (h : Nm w W l ts) (hb : Below W.heap.size W W') : Nm w W' l ts :=
  ⟨bthen h.below hb (Nat.le_refl _), fun x hx => (h.bx x hx).below hb, fun x hx => (h.tb x hx).next hb⟩
theorem Nm.frac {w W W1 : World} {l : List (Nat × Int × Int)} {ts : List (Nat × Tree × Sl)} {n d : Int} (h : Nm w W l ts) (hb : Below W.heap.size W W1) : Nm w (W1.alloc (.cells #[.int .i64 n, .int .i64 d] 24)) ((W1.heap.size, n, d) :: l) ts := by
  have h2 := (h.next hb).next (bel1 W1 (.cells #[.int .i64 n, .int .i64 d] 24))
  refine ⟨h2.below, fun x hx => ?_, h2.tb⟩
  rcases List.mem_cons.1 hx with rfl | hx
  · exact Blk.new _ _ _
  · exact h2.bx x hx
theorem Nm.tree {w W W1 : World} {l : List (Nat × Int × Int)} {ts : List (Nat × Tree × Sl)} {P : Nat → Nat → Prop} {d : Nd} {ks : List Tree} {mv bv kv : Value} (h : Nm w W l ts) (hT : TreeAt W1 P (.node d ks) (mv, bv, kv)) (hb : Below W.heap.size W W1) : Nm w (W1.alloc (.cells (ndC d mv bv kv) 29)) l ((W1.heap.size, .node d ks, (mv, bv, kv)) :: ts) := by
  have h2 := (h.next hb).next (bel1 W1 (.cells (ndC d mv bv kv) 29))
  have hn : TBp (W1.alloc (.cells (ndC d mv bv kv) 29)) W1.heap.size (.node d ks) (mv, bv, kv) := TBp.new (t := .node d ks) (s := (mv, bv, kv)) (hT.mono fun _ _ _ _ => trivial)
  refine ⟨h2.below, h2.bx, fun x hx => ?_⟩
  rcases List.mem_cons.1 hx with rfl | hx
  · exact hn
  · exact h2.tb x hx
theorem Nm.nil (w : World) : Nm w w [] [] := ⟨Below.refl _ _, fun x hx => (by cases hx), fun x hx => (by cases hx)⟩
theorem frc_at (W : World) (n d : Int) (h1 : I64 n) (h2 : I64 d) : TreeAt W AnyP (frcT n d) (nilV, nilV, nilV) :=
  kleaf_at (d := ⟨0, 0, 0, 0, 0, n, d, ⟨#[]⟩, [], []⟩) ⟨⟨(by unfold I64; decide : I64 0), (by unfold I64; decide : I64 0), (by unfold I64; decide : I64 0), (by unfold I64; decide : I64 0), (by unfold I64; decide : I64 0), h1, h2⟩, by show (0 : Nat) ≤ maxLen; omega, fun m hm => by simp at hm, fun s hs => by simp at hs⟩ (SeqP.nil _ _ _) (SeqP.nil _ _ _)
theorem FOk.i64 {n d : Int} (h : FOk n d) : I64 n ∧ I64 d := by
  obtain ⟨_, a, b, c, e⟩ := h
  unfold I64
  omega
/-- what is known of the two prints -/
theorem num_facts {n d : Int} (h : FOk n d) : ∃ z z2 : ByteArray,
    Box (∀ W' s', TreeAt W' AnyP (frcT n d) s' → LibP W' → Calls Tryd.prog 7 #[.agg (ndC ⟨0, 0, 0, 0, 0, n, d, ⟨#[]⟩, [], []⟩ s'.1 s'.2.1 s'.2.2)] W' (RetB (.tuple #[.string z, .int .i64 0]) W')) ∧
    Box (∀ W', WordsV W' → Calls Tryd.prog 8 #[.string z] W' fun e w' => ∃ mv bv kv, e = .returned (.tuple #[.agg (ndC (normN n d).d mv bv kv), .int .i64 0, .int .i64 0]) ∧ TreeAt w' (fun b _ => W'.heap.size ≤ b) (normN n d) (mv, bv, kv) ∧ Below W'.heap.size W' w') ∧
    Box (∀ W' s', TreeAt W' AnyP (divT n d) s' → LibP W' → Calls Tryd.prog 7 #[.agg (ndC (pbN 3) s'.1 s'.2.1 s'.2.2)] W' (RetB (.tuple #[.string z2, .int .i64 0]) W')) ∧
    Box (∀ W', WordsV W' → Calls Tryd.prog 8 #[.string z2] W' fun e w' => ∃ mv bv kv, e = .returned (.tuple #[.agg (ndC (pbN 3) mv bv kv), .int .i64 0, .int .i64 0]) ∧ TreeAt w' (fun b _ => W'.heap.size ≤ b) (.node (pbN 3) [numT 1, normN n d]) (mv, bv, kv) ∧ Below W'.heap.size W' w') := by
  obtain ⟨g1, g2, g3⟩ := frac_round h
  obtain ⟨g4, g5, g6⟩ := div_round h
  refine ⟨bsL (showT (frcT n d)), bsL (showT (divT n d)), ⟨fun W' s' hT hl => print_at (frcT n d) _ 0 AnyP W' s' hT hl g1⟩, ⟨fun W' hw => parse_at _ _ 0 0 W' ?_ hw (by rw [lst_bsN]; exact g2)⟩, ⟨fun W' s' hT hl => print_at (divT n d) _ 0 AnyP W' s' hT hl g4⟩, ⟨fun W' hw => parse_at _ (.node (pbN 3) [numT 1, normN n d]) 0 0 W' ?_ hw (by rw [lst_bsN]; exact g5)⟩⟩
  · rw [← data_size, show (bsL (showT (frcT n d))).data.toList = showT (frcT n d) from lst_bsN _]; unfold maxLen; omega
  · rw [← data_size, show (bsL (showT (divT n d))).data.toList = showT (divT n d) from lst_bsN _]; unfold maxLen; omega
set_option maxHeartbeats 8000000 in
set_option maxRecDepth 100000 in
theorem parserNumbers_walk (a b : Int) (w : World) (hw : LibP w) (a1 : -9223372036854775808 ≤ a) (a2 : a ≤ 9223372036854775807) (b1 : -9223372036854775808 ≤ b) (b2 : b ≤ 9223372036854775807) :
    Calls Tryd.prog 5 #[.int .i64 a, .int .i64 b] w fun e w' => e = .returned (.bool true) ∧ Below w.heap.size w w' := by
  have HW := Box.mk hw
  clear hw
  obtain ⟨p, hp, p1, p2⟩ : ∃ p, bound a 1073741824 = p ∧ -1073741824 ≤ p ∧ p ≤ 1073741824 := ⟨_, rfl, bound_bd a 1073741824 (by omega)⟩
  obtain ⟨q, hq, q1, q2⟩ : ∃ q, around b 1073741824 = q ∧ 0 ≤ q ∧ q < 1073741824 := ⟨_, rfl, around_bd b 1073741824 (by omega)⟩
  have HP := Box.mk hp
  have HQ := Box.mk hq
  clear hp hq
  obtain ⟨n, d, hE, hF⟩ := fok_new p1 p2 (q := 1 + q) (by omega) (by omega)
  have HE := Box.mk hE
  have HF := Box.mk hF
  have HN0 := Box.mk (Nm.nil w)
  clear hE hF
  go_enter Tryd.func5, Tryd.ntmps5
  go_wp2_with (first
    | (go_at_call 14; refine (bound_any _ _ _ (by omega) (by omega) (by omega) (by omega)).mono ?_; rintro e w' ⟨rfl, rfl⟩; rw [HP.out])
    | (go_at_call 12; refine (around_any _ _ _ (by omega) (by omega) (by omega) (by omega)).mono ?_; rintro e w' ⟨rfl, rfl⟩; rw [HQ.out]))
  refine (new_any p (1 + q) _ (by omega) (by omega) (by omega) (by omega)).mono ?_
  rintro e w1 ⟨rfl, hb⟩
  rw [HE.out]
  have HN := Box.mk (HN0.out.frac (n := n) (d := d) hb)
  clear hb HN0 p1 p2 q1 q2
  have hOk := HF.out.i64
  obtain ⟨z, z2, C1, C2, C3, C4⟩ := num_facts HF.out
  have HV := Box.mk (val_norm HF.out)
  go_upto_region 2 with (fail)
  generalize w1.alloc (.cells #[.int .i64 n, .int .i64 d] 24) = W1 at HN ⊢
  generalize w1.heap.size = ga at *
  obtain ⟨c0, c1⟩ := (HN.out.bx _ (List.mem_cons_self ..)).c2
  go_wp2_with fail
  refine (C1.out _ (nilV, nilV, nilV) (frc_at _ _ _ hOk.1 hOk.2) (HW.out.below HN.out.below)).mono ?_
  rintro e w2 ⟨rfl, hb⟩
  have HN1 := Box.mk (HN.out.next hb)
  clear hb HN c0 c1
  go_wp2_with fail
  refine (C2.out _ (HW.out.below HN1.out.below).v).mono ?_
  rintro e w3 ⟨mv, bv, kv, rfl, hT, hb⟩
  obtain ⟨X, hX⟩ : ∃ X, normN n d = X := ⟨_, rfl⟩
  rw [hX] at hT
  obtain ⟨xd, xs⟩ := X
  obtain ⟨B1, m1, rfl, -⟩ := hT.nod.ms.form
  obtain ⟨B2, m2, rfl, -⟩ := hT.nod.bys.form
  obtain ⟨B3, m3, rfl, -⟩ := hT.nod.kform
  have HVX : Box (ValC (.node xd xs) n d) := ⟨by rw [← hX]; exact HV.out⟩
  rw [hX] at C4
  have HC4 := C4
  rw [hX]
  clear hX C1 C2 HV C4
  simp only [Tree.d]
  have HN := Box.mk (HN1.out.tree hT hb)
  clear hT hb HN1
  go_upto_region 4 with (fail)
  generalize w3.heap.size = gx at *
  generalize w3.alloc (.cells (ndC xd (.slice B1 xd.ms.length m1) (.slice B2 xd.bys.length m2) (.slice B3 xs.length m3)) 29) = W3 at HN ⊢
  obtain ⟨k0, k1, k2, k3, k4, k5, k6, k7, k8, k9, k10⟩ := blk11z (d := xd) (HN.out.tb _ (List.mem_cons_self ..)).box
  go_wp2_with fail
  refine (HVX.out _ (_, _, _) (HN.out.tb _ (List.mem_cons_self ..)).tr).mono ?_
  rintro e w4 ⟨rfl, hb⟩
  have HN1 := Box.mk (HN.out.frac (n := n) (d := d) hb)
  clear hb HN k0 k1 k2 k3 k4 k5 k6 k7 k8 k9 k10
  go_upto_region 5 with (fail)
  generalize w4.alloc (.cells #[.int .i64 n, .int .i64 d] 24) = W4 at HN1 ⊢
  generalize w4.heap.size = gv at *
  obtain ⟨v0, v1⟩ := (HN1.out.bx _ (List.mem_cons_self ..)).c2
  obtain ⟨c0, c1⟩ := (HN1.out.bx _ (List.mem_cons_of_mem _ (List.mem_cons_self ..))).c2
  have hfr : ∀ W : World, (Op.equalIn 10000 24 (.agg #[.int .i64 n, .int .i64 d]) (.agg #[.int .i64 n, .int .i64 d])).run Tryd.prog W = .ok true W := fun W => by rw [eq_fracN]; simp
  go_upto_region 7 with (fail)
  clear v0 v1 c0 c1 hfr
  obtain ⟨c0, c1⟩ := (HN1.out.bx _ (List.mem_cons_of_mem _ (List.mem_cons_self ..))).c2
  have HD : Box (TreeAt (W4.alloc (.cells (kidC ⟨0, 0, 0, 0, 0, 1, 1, ⟨#[]⟩, [], []⟩ nilV nilV nilV ⟨0, 0, 0, 0, 0, n, d, ⟨#[]⟩, [], []⟩ nilV nilV nilV) 29)) AnyP (divT n d) (nilV, nilV, .slice (some ⟨W4.heap.size, 0, none⟩) 2 2)) := ⟨bin_at (n := 3) (by omega) (frc_at W4 1 1 (by unfold I64; decide) (by unfold I64; decide)) (frc_at W4 n d hOk.1 hOk.2)⟩
  have HN2 := Box.mk (HN1.out.next (bel1 W4 (.cells (kidC ⟨0, 0, 0, 0, 0, 1, 1, ⟨#[]⟩, [], []⟩ nilV nilV nilV ⟨0, 0, 0, 0, 0, n, d, ⟨#[]⟩, [], []⟩ nilV nilV nilV) 29)))
  go_wp2_with fail
  refine (C3.out _ (nilV, nilV, .slice (some ⟨W4.heap.size, 0, none⟩) 2 2) HD.out (HW.out.below HN2.out.below)).mono ?_
  rintro e w5 ⟨rfl, hb⟩
  have HN := Box.mk (HN2.out.next hb)
  clear hb HN1 HN2 HD c0 c1
  go_wp2_with fail
  refine (HC4.out _ (HW.out.below HN.out.below).v).mono ?_
  rintro e w6 ⟨mv, bv, kv, rfl, hT, hb⟩
  obtain ⟨B1, m1, rfl, -⟩ := hT.nod.ms.form
  obtain ⟨B2, m2, rfl, -⟩ := hT.nod.bys.form
  obtain ⟨B3, m3, rfl, -⟩ := hT.nod.kform
  have HN1 := Box.mk (HN.out.tree hT hb)
  clear hT hb HN
  go_upto_region 9 with (fail)
  generalize w6.heap.size = gy at *
  generalize w6.alloc (.cells (ndC (pbN 3) _ _ _) 29) = W6 at HN1 ⊢
  obtain ⟨k0, k1, k2, k3, k4, k5, k6, k7, k8, k9, k10⟩ := blk11z (d := pbN 3) (HN1.out.tb _ (List.mem_cons_self ..)).box
  simp only [pbN, List.length_cons, List.length_nil, Nat.zero_add, Nat.reduceAdd] at k1 k10
  clear k0 k2 k3 k4 k5 k6 k7 k8 k9
  go_upto_region 11 with (fail)
  obtain ⟨b, off, x1, x2, x3, hA, hb0, -, hk, hTk⟩ := (HN1.out.tb _ (List.mem_cons_self ..)).tr.nod.kid 1 xd xs rfl
  obtain ⟨h0, h1, h2, h3, h4, h5, h6, h7, h8, h9, h10⟩ := hk
  simp only [Nat.one_mul, Nat.add_assoc, Nat.reduceAdd] at h0 h1 h2 h3 h4 h5 h6 h7 h8 h9 h10
  cases hA
  have HTK := Box.mk hTk
  clear hTk hb0
  go_wp2_with fail
  refine (HVX.out _ (x1, x2, x3) HTK.out).mono ?_
  rintro e w7 ⟨rfl, hb⟩
  have HN := Box.mk (HN1.out.frac (n := n) (d := d) hb)
  clear hb HN1 HTK h0 h1 h2 h3 h4 h5 h6 h7 h8 h9 h10 k1 k10
  go_upto_region 12 with (fail)
  generalize w7.alloc (.cells #[.int .i64 n, .int .i64 d] 24) = W7 at HN ⊢
  generalize w7.heap.size = gw at *
  obtain ⟨v0, v1⟩ := (HN.out.bx _ (List.mem_cons_self ..)).c2
  obtain ⟨c0, c1⟩ := (HN.out.bx _ (List.mem_cons_of_mem _ (List.mem_cons_of_mem _ (List.mem_cons_self ..)))).c2
  have hfr : ∀ W : World, (Op.equalIn 10000 24 (.agg #[.int .i64 n, .int .i64 d]) (.agg #[.int .i64 n, .int .i64 d])).run Tryd.prog W = .ok true W := fun W => by rw [eq_fracN]; simp
  obtain ⟨k0, k1, k2, k3, k4, k5, k6, k7, k8, k9, k10⟩ := blk11z (d := pbN 3) (HN.out.tb _ (List.mem_cons_self ..)).box
  simp only [pbN] at k1
  clear k0 k2 k3 k4 k5 k6 k7 k8 k9 k10
  go_wp2_with fail
  refine (lives_true _ (HW.out.below HN.out.below)).mono ?_
  rintro e0 w8 ⟨rfl, hb⟩
  have hbf := bthen HN.out.below hb (Nat.le_refl _)
  go_wp2_with fail
  go_ret
  exact ⟨rfl, hbf⟩
end
end Go.Proofs.YthoibeajhdhdhaaDoor
