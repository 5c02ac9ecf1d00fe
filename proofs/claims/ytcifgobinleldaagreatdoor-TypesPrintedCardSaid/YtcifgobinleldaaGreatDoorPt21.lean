/- Contracts, packed: Qk Zc Kp. -/
import Derived.Test.YtcifgobinleldaaGreatDoorPt15
import Derived.Test.YtcifgobinleldaaGreatDoorPt19
import Derived.Test.YtcifgobinleldaaGreatDoorPt20
set_option linter.unusedVariables false
set_option linter.unusedSimpArgs false
namespace Go.Proofs.YtcifgobinleldaaGreatDoor
section
open Go.RowKit FracM

theorem str_beq (a b : ByteArray) : (a.toList == b.toList) = decide (a = b) := by
  rw [Bool.eq_iff_iff, beq_iff_eq, decide_eq_true_iff, ByteArray.toList_eq, ByteArray.toList_eq]
  exact ⟨fun h => ByteArray.ext (Array.toList_inj.mp h), fun h => by rw [h]⟩
def AnyP : Nat → Nat → Prop := fun _ _ => True
def StrsP (w : World) (v : Value) (l : List ByteArray) : Prop := SeqP w AnyP 1 v l.length (l.map Value.string)
/-- a slice of strings is returned -/
def RetStrs (l : List ByteArray) (w : World) (e : Ending) (w' : World) : Prop := ∃ A n c, e = .returned (.slice A n c) ∧ n = l.length ∧ StrsP w' (.slice A n c) l ∧ Below w.heap.size w w'
theorem StrsP.below {w w' : World} {v : Value} {l : List ByteArray} (h : StrsP w v l) (hb : Below w.heap.size w w') : StrsP w' v l := h.keep (Agree.of_below hb)
theorem kid2 {w : World} {P : Nat → Nat → Prop} {d : Nd} {ks : List Tree} {mv bv : Value} {A : Option Addr} {n c : Nat} (h : Nod w P d ks mv bv (.slice A n c)) (i : Nat) (hi : i < ks.length) :
    ∃ e es b off B1 m1 B2 m2 B3 m3, ks[i]? = some (.node e es) ∧ A = some ⟨b, off, none⟩ ∧ b < w.heap.size ∧ (∃ z, P b z) ∧ At11 w b (off + i * 11) e (.slice B1 e.ms.length m1) (.slice B2 e.bys.length m2) (.slice B3 es.length m3) ∧ TreeAt w P (.node e es) (.slice B1 e.ms.length m1, .slice B2 e.bys.length m2, .slice B3 es.length m3) := by
  obtain ⟨x, hx⟩ : ∃ x, ks[i]? = some x := ⟨ks[i], List.getElem?_eq_getElem _⟩
  obtain ⟨e, es⟩ := x
  obtain ⟨b, off, mv', bv', kv', rfl, hb, hp, h11, hT⟩ := h.kid i e es hx
  obtain ⟨B1, m1, rfl, -⟩ := hT.nod.ms.form
  obtain ⟨B2, m2, rfl, -⟩ := hT.nod.bys.form
  obtain ⟨B3, m3, rfl, -⟩ := hT.nod.kform
  exact ⟨e, es, b, off, B1, m1, B2, m2, B3, m3, hx, rfl, hb, hp, h11, hT⟩
theorem two_of {ks : List Tree} {a b : Tree} (hl : ks.length = 2) (h0 : ks[0]? = some a) (h1 : ks[1]? = some b) : ks = [a, b] := by
  match ks, hl with
  | [x, y], _ => simp at h0 h1; rw [h0, h1]
theorem one_of {ks : List Tree} {a : Tree} (hl : ks.length = 1) (h0 : ks[0]? = some a) : ks = [a] := by
  match ks, hl with
  | [x], _ => simp at h0; rw [h0]
def RowlessOk (t : Tree) : Prop := ∀ (P : Nat → Nat → Prop) (w : World) (s : Sl), TreeAt w P t s → chk t = 0 → Calls Tryz.prog 78 #[.agg (ndC t.d s.1 s.2.1 s.2.2)] w (RetB (.bool (rlB t)) w)
set_option maxHeartbeats 2000000 in
set_option maxRecDepth 100000 in
theorem rowless_any : ∀ t, RowlessOk t := by
  refine Tree.ind ?_
  intro d ks ih P w ⟨mv, bv, kv⟩ hT hc
  obtain ⟨hc1, hck⟩ := chk_ok hc
  have IH := Box.mk ih
  have CK := Box.mk hck
  have HN := Lib.hid (N1.start hT)
  obtain ⟨A1, n1, hmv, l1⟩ := hT.nod.ms.form
  obtain ⟨A2, n2, hbv, l2⟩ := hT.nod.bys.form
  obtain ⟨A3, n3, hkv, l3⟩ := hT.nod.kform
  subst hmv hbv hkv
  obtain ⟨fin, hfin⟩ : ∃ z, rlB (.node d ks) = z := ⟨_, rfl⟩
  rw [hfin]
  rw [rlB] at hfin
  have hsh := shape_cases (chk1_shape hc1)
  clear hT ih hck hc1 hc
  simp only [Tree.d]
  go_enter Tryz.func78, Tryz.ntmps78
  go_upto_region 1 with (fail)
  generalize w.alloc (.cells (ndC d _ _ _) 33) = W at HN ⊢
  have c0 := HN.out.c.1
  have c10 := HN.out.c.2.2.2.2.2.2.2.2.2.2
  simp only [Nat.zero_add] at c10
  rcases hsh with ⟨hk, hl⟩ | ⟨hk, hl, -, -⟩ | ⟨hk, hl, -, -⟩ | ⟨hk, hl, -, -⟩
  · rw [hk] at c0
    rw [if_pos hk] at hfin
    have HF := Box.mk hfin
    clear hfin hk
    go_wp2_with fail
    go_ret
    exact ⟨ret_bool HF.out, HN.out.below⟩
  · rw [hk] at c0
    rw [if_neg (by omega), if_neg (by omega)] at hfin
    have HF := Box.mk hfin
    clear hfin hk
    go_wp2_with fail
    go_ret
    exact ⟨ret_bool HF.out, HN.out.below⟩
  · rw [hk] at c0
    rw [if_neg (by omega), if_neg (by omega)] at hfin
    have HF := Box.mk hfin
    clear hfin hk
    go_wp2_with fail
    go_ret
    exact ⟨ret_bool HF.out, HN.out.below⟩
  · rw [hk] at c0
    rw [if_neg (by omega), if_pos hk] at hfin
    obtain ⟨e, es, b, off, B1, m1, B2, m2, B3, m3, hx, rfl, hb, hpb, h11, hT'⟩ := kid2 HN.out.nod 0 (by omega)
    obtain ⟨e', es', b', off', B1', m1', B2', m2', B3', m3', hx', hA, hb', hpb', h11', hT2⟩ := kid2 HN.out.nod 1 (by omega)
    cases hA
    have h2 := two_of hl hx hx'
    obtain ⟨k0, k1, k2, k3, k4, k5, k6, k7, k8, k9, k10⟩ := h11
    obtain ⟨j0, j1, j2, j3, j4, j5, j6, j7, j8, j9, j10⟩ := h11'
    simp only [Nat.zero_mul, Nat.one_mul, Nat.add_zero] at k0 k1 k2 k3 k4 k5 k6 k7 k8 k9 k10 j0 j1 j2 j3 j4 j5 j6 j7 j8 j9 j10
    have HF : Box ((rlB (.node e es) && rlB (.node e' es')) = fin) := ⟨by rw [← hfin, h2, rlL, rlL, rlL]; simp⟩
    have HT1 := Box.mk hT'
    have HT2 := Box.mk hT2
    have M1 : Box (Tree.node e es ∈ ks) := ⟨List.mem_of_getElem? hx⟩
    have M2 : Box (Tree.node e' es' ∈ ks) := ⟨List.mem_of_getElem? hx'⟩
    clear hfin hk hT' hT2 hx hx' h2
    have hl0 : (0 : Nat) < ks.length := by omega
    have hl1 : (1 : Nat) < ks.length := by omega
    go_wp2_with fail
    refine (IH.out _ M1.out P _ (.slice B1 e.ms.length m1, .slice B2 e.bys.length m2, .slice B3 es.length m3) HT1.out (CK.out _ M1.out)).mono ?_
    rintro e1 w1 ⟨rfl, hb1⟩
    have HN2 := Lib.hid (HN.out.next hb1)
    have HT3 := Box.mk (HT2.out.belo hb1)
    obtain ⟨q, E1⟩ : ∃ z, Box (rlB (.node e es) = z) := ⟨_, ⟨rfl⟩⟩
    rw [E1.out]
    clear HN c0 c10 k0 k1 k2 k3 k4 k5 k6 k7 k8 k9 k10
    cases q
    · clear hb1
      go_wp2_with fail
      go_ret
      exact ⟨ret_bool (by rw [← HF.out, E1.out]; rfl), HN2.out.below⟩
    · have c10 := HN2.out.c.2.2.2.2.2.2.2.2.2.2
      simp only [Nat.zero_add] at c10
      have p0 := bat hb1 hb' j0
      have p1 := bat hb1 hb' j1
      have p2 := bat hb1 hb' j2
      have p3 := bat hb1 hb' j3
      have p4 := bat hb1 hb' j4
      have p5 := bat hb1 hb' j5
      have p6 := bat hb1 hb' j6
      have p7 := bat hb1 hb' j7
      have p8 := bat hb1 hb' j8
      have p9 := bat hb1 hb' j9
      have p10 := bat hb1 hb' j10
      clear hb1 j0 j1 j2 j3 j4 j5 j6 j7 j8 j9 j10
      go_wp2_with fail
      refine (IH.out _ M2.out P _ (.slice B1' e'.ms.length m1', .slice B2' e'.bys.length m2', .slice B3' es'.length m3') HT3.out (CK.out _ M2.out)).mono ?_
      rintro e1 w2 ⟨rfl, hb1⟩
      have HN3 := Lib.hid (HN2.out.next hb1)
      clear hb1 p0 p1 p2 p3 p4 p5 p6 p7 p8 p9 p10 HN2
      go_wp2_with fail
      go_ret
      exact ⟨ret_bool (by rw [← HF.out, E1.out]; rfl), HN3.out.below⟩
set_option maxHeartbeats 400000 in
theorem sclone_any (A : Option Addr) (n c : Nat) (l : List ByteArray) (w : World) (h : StrsP w (.slice A n c) l) (hn : n ≤ 1000) :
    Calls Tryz.prog 66 #[.slice A n c] w (RetStrs l w) := by
  have hl : n = l.length := by obtain ⟨_, _, _, hv, _⟩ := h; cases hv; rfl
  obtain ⟨i0, hi, hz0, hz1, hz2⟩ := info_parts strInfo
  have hnil := fun (W : World) (A : Option Addr) (n c n' c' : Nat) => Lib.run_eql_slice_nil (P := Tryz.prog) W 30 9 A n c n' c' Tryz.underlying30
  have hbs : ∀ W : World, (Instr.buildSlice 30 0 #[]).run Tryz.prog W = .ok (.slice (some ⟨W.heap.size, 0, none⟩) 0 0) (W.alloc (.cells #[] 9)) := fun W => by kernel_rfl
  cases A with
  | none =>
    have H0 : Hid (l = []) := by
      obtain ⟨h1, A, c', hv, _, _, h2⟩ := h
      cases hv
      rcases Nat.eq_zero_or_pos l.length with h0 | h0
      · exact List.eq_nil_of_length_eq_zero h0
      · obtain ⟨b, off, hA, _⟩ := h2 h0; cases hA
    clear h hl
    go_enter Tryz.func66, Tryz.ntmps66
    go_wp2
    go_ret
    exact ⟨none, 0, 0, rfl, by rw [H0.out]; rfl, by rw [H0.out]; exact SeqP.nil _ _ _, Below.refl _ _⟩
  | some ad =>
    have HL := Lib.hid hl
    have HO : Hid ((w.alloc (.cells #[] 9)).ownsRow w.heap.size 9 1 (.slice (some ⟨w.heap.size, 0, none⟩) 0 0) 0 []) := World.ownsRow_made w _ 0 (Nat.le_refl _) (by unfold maxLen; omega) (by simp)
    have HC1 : Hid ((l.map Value.string).length = n * 1) := by rw [Hid]; simp [hl]
    have HC2 : Hid (∀ j u, (l.map Value.string)[j]? = some u → (w.alloc (.cells #[] 9)).cell? (ad.add j) = some u) := by
      have h' := (h.below (bel1 w (.cells #[] 9)))
      unfold StrsP at h'; rw [← hl] at h'; exact (h'.seq (t := 9)).news
    clear h hl
    go_enter Tryz.func66, Tryz.ntmps66
    go_wp2_with (at_builtin; refine wpList_append_own_at _ rfl _ _ 30 rfl w.heap.size 9 i0 (.string ⟨#[]⟩) 1 16 Tryz.underlying30 hi hz0 hz1 hz2 rfl (by decide) (.slice (some ⟨w.heap.size, 0, none⟩) 0 0) 0 [] rfl HO.out ad n c (l.map Value.string) rfl HC1.out HC2.out (by intro u hu; obtain ⟨x, _, rfl⟩ := List.mem_map.1 hu; rfl) (by simp only [maxLen]; omega) (by omega) (by simp) ?_; intro v' w1 hown1 hg1 _ hat1)
    go_ret
    obtain ⟨A, c', hv⟩ := own_form hown1
    refine ⟨A, _, c', congrArg Ending.returned hv, by rw [← HL.out]; omega, ?_, (bel1 _ _).trans (Below.grown (Below.refl _ _) hg1 (by simp) (by simp [Value.ownBlock]))⟩
    have hs := Seq.of_own (base' := 0) hown1
    rw [hv] at hs
    have : SeqP w1 AnyP 1 (.slice A (0 + n) c') (0 + n) ([] ++ l.map Value.string) := SeqP.of_seq hs (fun _ _ _ _ _ => trivial)
    unfold StrsP
    rw [← HL.out]
    simpa using this
end
section
open Go.RowKit

def inR (n : Int) : Bool := decide (-3 ≤ n) && decide (n ≤ 3)
def inU (a b c : Int) : Bool := inR a && (inR b && inR c)
theorem inR_no {n : Int} (h : inR n = false) : n < -3 ∨ (¬ n < -3 ∧ 3 < n) := by simp [inR] at h; omega
theorem inR_yes {n : Int} (h : inR n = true) : ¬ n < -3 ∧ ¬ 3 < n := by simp [inR] at h; omega
set_option maxHeartbeats 2000000 in
set_option maxRecDepth 100000 in
theorem uv_any (a b c : Int) (w : World) : Calls Tryz.prog 75 #[uv a b c] w (RetB (.bool (inU a b c)) w) := by
  have i0 := ix0 a b c; have i1 := ix1 a b c; have i2 := ix2 a b c
  go_enter Tryz.func75, Tryz.ntmps75
  go_wp2_with fail
  go_loop [6] (fun v => v = .int .i64 0 ∨ (v = .int .i64 1 ∧ inR a = true) ∨ (v = .int .i64 2 ∧ inR a = true ∧ inR b = true) ∨ (v = .int .i64 3 ∧ inU a b c = true)) (fun v => (3 - intOf v).toNat)
  case atStart => exact .inl rfl
  case round =>
    rcases hrel with rfl | ⟨rfl, ha⟩ | ⟨rfl, ha, hb⟩ | ⟨rfl, hu⟩
    · skip
      cases hn : inR a
      · have HE : Box (inU a b c = false) := ⟨by simp [inU, hn]⟩
        rcases inR_no hn with h | ⟨h, h2⟩
        all_goals
          clear hn
          go_wp2_with fail
          go_ret
          exact ⟨ret_bool (by rw [HE.out]), bel1 _ _⟩
      · obtain ⟨h, h2⟩ := inR_yes hn
        have HN := Box.mk hn; clear hn
        go_wp2_with fail
        go_round
        case rel => exact (.inr (.inl ⟨rfl, by first | exact HN.out | trivial⟩))
        case measure => decide
    · have HA := Box.mk ha; clear ha
      cases hn : inR b
      · have HE : Box (inU a b c = false) := ⟨by simp [inU, HA.out, hn]⟩
        rcases inR_no hn with h | ⟨h, h2⟩
        all_goals
          clear hn
          go_wp2_with fail
          go_ret
          exact ⟨ret_bool (by rw [HE.out]), bel1 _ _⟩
      · obtain ⟨h, h2⟩ := inR_yes hn
        have HN := Box.mk hn; clear hn
        go_wp2_with fail
        go_round
        case rel => exact (.inr (.inr (.inl ⟨rfl, HA.out, by first | exact HN.out | trivial⟩)))
        case measure => decide
    · have HA := Box.mk ha; have HC := Box.mk hb; clear ha hb
      cases hn : inR c
      · have HE : Box (inU a b c = false) := ⟨by simp [inU, HA.out, HC.out, hn]⟩
        rcases inR_no hn with h | ⟨h, h2⟩
        all_goals
          clear hn
          go_wp2_with fail
          go_ret
          exact ⟨ret_bool (by rw [HE.out]), bel1 _ _⟩
      · obtain ⟨h, h2⟩ := inR_yes hn
        have HN := Box.mk hn; clear hn
        go_wp2_with fail
        go_round
        case rel => exact (.inr (.inr (.inr ⟨rfl, by simp [inU, HA.out, HC.out, HN.out]⟩)))
        case measure => decide
    · have HE := Box.mk hu; clear hu
      go_wp2_with fail
      go_ret
      exact ⟨ret_bool (by rw [HE.out]), bel1 _ _⟩
end
section
open Go.RowKit FracM

/-- the words of a variable, in its cells -/
def WordsAt (w : World) (g : Nat) (l : List (List UInt8)) : Prop := g < w.heap.size ∧ ∀ (k : Nat) (x : List UInt8), l[k]? = some x → w.cell? ⟨g, k, none⟩ = some (.string (bsL x))
theorem WordsAt.below {w w' : World} {g : Nat} {l : List (List UInt8)} (h : WordsAt w g l) (hb : Below w.heap.size w w') : WordsAt w' g l := ⟨Nat.lt_of_lt_of_le h.1 hb.size, fun k x hx => (hb.cell h.1).trans (h.2 k x hx)⟩
theorem WordsAt.only {w w' : World} {g q : Nat} {l : List (List UInt8)} (h : WordsAt w g l) (hb : Only q w w') (hq : g ≠ q) : WordsAt w' g l := ⟨Nat.lt_of_lt_of_le h.1 hb.size, fun k x hx => (World.cell?_of_block (a := ⟨g, k, none⟩) (hb.block g h.1 hq)).trans (h.2 k x hx)⟩
/-- a block behind the variables -/
def Far (p : Nat) : Prop := 4 < p ∧ 3 < p ∧ 2 < p ∧ 1 < p
theorem Far.le {p q : Nat} (h : Far p) (k : p ≤ q) : Far q := ⟨Nat.lt_of_lt_of_le h.1 k, Nat.lt_of_lt_of_le h.2.1 k, Nat.lt_of_lt_of_le h.2.2.1 k, Nat.lt_of_lt_of_le h.2.2.2 k⟩
/-- all variables of the parser; q: the block of the parser's state -/
structure WordsP (w : World) (q : Nat) : Prop where
  grp : WordsAt w 4 groupsT
  fn : WordsAt w 3 funcsT
  mat : WordsAt w 2 matchT
  opr : WordsAt w 1 opersT
  far : Far q
theorem WordsP.below {w w' : World} {q : Nat} (h : WordsP w q) (hb : Below w.heap.size w w') : WordsP w' q := ⟨h.grp.below hb, h.fn.below hb, h.mat.below hb, h.opr.below hb, h.far⟩
theorem WordsP.only {w w' : World} {q p : Nat} (h : WordsP w q) (hb : Only p w w') (hp : Far p) : WordsP w' q :=
  ⟨h.grp.only hb (Nat.ne_of_lt hp.1), h.fn.only hb (Nat.ne_of_lt hp.2.1), h.mat.only hb (Nat.ne_of_lt hp.2.2.1), h.opr.only hb (Nat.ne_of_lt hp.2.2.2), h.far⟩
theorem WordsP.low {w : World} {q : Nat} (h : WordsP w q) : Far w.heap.size := ⟨h.grp.1, h.fn.1, h.mat.1, h.opr.1⟩
theorem getD_map (l : List (List UInt8)) (k : Nat) : (l.map bsL).getD k ByteArray.empty = bsL (l.getD k []) := by
  rw [List.getD_eq_getElem?_getD, List.getD_eq_getElem?_getD, List.getElem?_map]
  cases l[k]? <;> rfl
theorem idx_eq (l : List (List UInt8)) (x : List UInt8) : Lib.idxOfS (l.map bsL) (bsL x) = idxT l x := by
  have ht : l.map bsL = (l.map bsL).take l.length := by rw [List.take_of_length_le (by simp)]
  rw [ht]
  unfold idxT
  cases h : l.findIdx? (fun y => y == x) with
  | none =>
    rw [List.findIdx?_eq_none_iff] at h
    refine Lib.idxOfS_miss _ _ _ fun j hj e => ?_
    rw [getD_map, bsL_inj] at e
    have := h (l[j]) (List.getElem_mem hj)
    rw [List.getD_eq_getElem?_getD, List.getElem?_eq_getElem hj] at e
    simp at e this
    exact this e
  | some i =>
    rw [List.findIdx?_eq_some_iff_getElem] at h
    obtain ⟨hi, h1, h2⟩ := h
    refine Lib.idxOfS_hit _ _ i _ hi (by simp) ?_ fun j hj e => ?_
    · rw [getD_map, bsL_inj, List.getD_eq_getElem?_getD, List.getElem?_eq_getElem hi]
      simpa using h1
    · rw [getD_map, bsL_inj, List.getD_eq_getElem?_getD, List.getElem?_eq_getElem (by omega)] at e
      have := h2 j hj
      simp at e this
      exact this e
theorem pindex_any (g n : Nat) (l : List (List UInt8)) (hn : n = l.length) (hl : n ≤ 100) (x : List UInt8) (w : World) (h : WordsAt w g l) :
    Calls Tryz.prog 200 #[.slice (some ⟨g, 0, none⟩) n n, .string (bsL x)] w fun e w' => e = .returned (.int .i64 (idxT l x)) ∧ w = w' := by
  subst hn
  refine (Tryz.slices_Index_string g 0 l.length l.length (l.map bsL) (bsL x) w (by simp) (by omega) (fun j hj => ?_)).mono ?_
  · rw [getD_map, Nat.zero_add]
    simp only [List.length_map] at hj
    exact h.2 j _ (by rw [List.getD_eq_getElem?_getD, List.getElem?_eq_getElem hj]; rfl)
  · rintro e w' ⟨rfl, rfl⟩
    refine ⟨?_, rfl⟩
    rw [List.take_of_length_le (by simp), idx_eq]
end
end Go.Proofs.YtcifgobinleldaaGreatDoor
