/- Contracts, packed: Lh Li. -/
import Derived.Test.YthoibeajhdhdhaaDoorPr39
import Derived.Test.YthoibeajhdhdhaaDoorPr49
set_option linter.unusedVariables false
set_option linter.unusedSimpArgs false
namespace Go.Proofs.YthoibeajhdhdhaaDoor
section
open Go.RowKit FracM

theorem lexM_len : ∀ (n i : Nat) (l : List UInt8), (lexM n i l).1.length ≤ l.length := by
  intro n
  induction n with
  | zero => intro i l; simp [lexM]
  | succ n ih =>
    intro i l
    cases l with
    | nil => simp [lexM]
    | cons c r =>
      rw [lexM]
      split
      · have := ih (i + 1) r
        simp only [List.length_cons]
        omega
      · split
        · next h =>
          have hp := tok_pos h
          have := ih (i + (tokM i c r).2.2) ((c :: r).drop (tokM i c r).2.2)
          simp only [List.length_cons, List.length_drop] at this ⊢
          omega
        · simp
theorem Lx_nil : Lx [] [] := fun n i _ => by cases n <;> exact ⟨[], rfl, rfl⟩
/-- Parse undoes Print -/
theorem parse_show {t : Tree} (hc : chk t = 0) (hp : prtB t = true) (hl : (showT t).length ≤ 2000) (hf : fitB (norm t) = true) : parseT (showT t) = (norm t, 0, 0) := by
  have hx := Lx_show t hc hp [] [] (nh_nil _) Lx_nil
  simp only [List.append_nil] at hx
  obtain ⟨T, h1, h2⟩ := hx (showT t).length 0 (Nat.le_refl _)
  have hlen : (toksT t).length < (showT t).length + 1 := by
    have := lexM_len (showT t).length 0 (showT t)
    rw [h1] at this
    simp only at this
    rw [← h2, List.length_map]
    omega
  obtain ⟨us, h3, h4⟩ := expr_done ((back_all t hc).expr (showT t).length ((showT t).length + 1) T [] hlen (by simpa using h2) ⟨⟨rfl, rfl, rfl⟩, rfl, rfl⟩) ⟨⟨⟨rfl, rfl, rfl⟩, rfl, rfl⟩, rfl, rfl⟩
  have hu : us = [] := by simpa using h4
  subst hu
  unfold parseT
  rw [if_neg (by omega), h1]
  simp only [↓reduceIte]
  rw [show exprOf (facM ↑(showT t).length ((showT t).length + 1)) T = .ok (norm t, []) from h3]
  simp only
  rw [if_pos hf]
mutual
/-- all its numbers are natural -/
def natT : Tree → Bool
  | .node d ks => (!(d.kind == 0) || natE d.num d.den) && natL ks
def natL : List Tree → Bool
  | [] => true
  | t :: ts => natT t && natL ts
end
theorem natL_all {ks : List Tree} (h : natL ks = true) : ∀ t ∈ ks, natT t = true := by
  induction ks with
  | nil => intro t ht; cases ht
  | cons x xs ih =>
    rw [natL] at h
    simp only [Bool.and_eq_true] at h
    intro t ht
    rcases List.mem_cons.1 ht with rfl | ht
    · exact h.1
    · exact ih h.2 t ht
theorem norm_nat : ∀ t, chk t = 0 → natT t = true → norm t = t := Tree.ind fun d ks ih hc hn => by
  obtain ⟨h1, h2⟩ := chk_ok hc
  obtain ⟨a1, _⟩ := chk1_all h1
  rw [natT] at hn
  simp only [Bool.and_eq_true] at hn
  rw [norm]
  by_cases hk : d.kind = 0
  · rw [if_pos hk]
    have hz : natE d.num d.den = true := by have := hn.1; rw [show (d.kind == 0) = true by simpa using hk] at this; simpa using this
    unfold normN
    rw [if_pos hz]
    unfold shapedB at a1
    rw [if_pos hk] at a1
    unfold noSelB at a1
    simp only [Bool.and_eq_true, decide_eq_true_eq, beq_iff_eq, List.isEmpty_iff] at a1
    obtain ⟨⟨⟨⟨⟨b1, b2⟩, b3⟩, b4⟩, b5⟩, b6⟩ := a1
    obtain ⟨kd, fn, wi, of, k, nu, de, na, ms, bys⟩ := d
    simp only at b1 b2 b3 b4 b5 b6 hk hz
    obtain ⟨⟨⟨c1, c2⟩, c3⟩, c4⟩ := b3
    have c3' := ba_nil (s := na) (by simpa using c3)
    unfold natE at hz
    simp only [Bool.and_eq_true, beq_iff_eq] at hz
    obtain rfl : ks = [] := List.eq_nil_of_length_eq_zero b2
    obtain rfl := hz.1.1
    subst c1 c2 c3' c4 b1 b4 b5 hk
    rfl
  · rw [if_neg hk, normL_eq]
    congr 1
    exact (List.map_congr_left fun t ht => ih t ht (h2 t ht) (natL_all hn.2 t ht)).trans (List.map_id ks)
theorem prt_nat : ∀ t, natT t = true → prtB t = true := Tree.ind fun d ks ih hn => by
  rw [natT] at hn
  simp only [Bool.and_eq_true] at hn
  rw [prtB]
  by_cases hk : d.kind = 0
  · rw [if_pos hk]
    have hz : natE d.num d.den = true := by have := hn.1; rw [show (d.kind == 0) = true by simpa using hk] at this; simpa using this
    unfold natE at hz
    simp only [Bool.and_eq_true, beq_iff_eq, decide_eq_true_eq] at hz
    unfold writB
    simp only [Bool.and_eq_true, decide_eq_true_eq]
    omega
  · rw [if_neg hk]
    have h2 := natL_all hn.2
    clear hn
    induction ks with
    | nil => rfl
    | cons x xs ihx =>
      rw [prtL, ih x (by simp) (h2 x (by simp)), ihx (fun t ht => ih t (by simp [ht])) (fun t ht => h2 t (by simp [ht]))]
      rfl
/-- Parse undoes Print on trees whose numbers are natural -/
theorem parse_print {t : Tree} (hc : chk t = 0) (hn : natT t = true) (hl : (showT t).length ≤ 2000) (hf : fitB t = true) : parseT (showT t) = (t, 0, 0) := by
  have h := parse_show hc (prt_nat t hn) hl (by rw [norm_nat t hc hn]; exact hf)
  rwa [norm_nat t hc hn] at h
end
section
open Go.RowKit FracM

theorem namesL_sz : ∀ x ∈ namesL, x.data.toList.length ≤ 4 := by decide +kernel
theorem valuesL_sz : ∀ x ∈ valuesL8, x.data.toList.length ≤ 4 := by decide +kernel
theorem gmat_len {m : Mat} (h : GoodMat m) : (matL m).length ≤ 12 := by
  have h1 := namesL_sz _ h.1
  have h2 := valuesL_sz _ h.2.2
  have h3 : (matchT.getD m.2.1.toNat []).length ≤ 2 := by
    have hk : m.2.1.toNat < 3 := by have := h.2.1; omega
    generalize m.2.1.toNat = k at hk
    match k, hk with
    | 0, _ => decide
    | 1, _ => decide
    | 2, _ => decide
  unfold matL
  simp only [List.length_append, List.length_cons, List.length_nil]
  omega
theorem gmats_len {ms : List Mat} (h : ∀ m ∈ ms, GoodMat m) (hl : ms.length ≤ 3) : (matsL ms).length ≤ 41 := by
  have hr : ∀ l : List Mat, (∀ m ∈ l, GoodMat m) → (matsR l).length ≤ 13 * l.length + 1 := by
    intro l
    induction l with
    | nil => intro _; simp [matsR]
    | cons m l ih =>
      intro hm
      have h1 := gmat_len (hm m (by simp))
      have h2 := ih fun x hx => hm x (by simp [hx])
      rw [matsR]
      simp only [List.length_append, List.length_cons]
      omega
  cases ms with
  | nil => simp [matsL]
  | cons m ms =>
    have h1 := gmat_len (h m (by simp))
    have h2 := hr ms fun x hx => h x (by simp [hx])
    rw [matsL]
    simp only [List.length_append, List.length_cons] at hl ⊢
    omega
theorem gbys_len {l : List ByteArray} (h : l.Sublist namesL) : (bysL l).length ≤ 40 := by
  have hl : l.length ≤ 6 := by simpa [namesL] using h.length_le
  have hx : ∀ x ∈ l, x.data.toList.length ≤ 4 := fun x hx => namesL_sz x (h.subset hx)
  have hr : ∀ l : List ByteArray, (∀ x ∈ l, x.data.toList.length ≤ 4) → (bysR l).length ≤ 5 * l.length + 1 := by
    intro l
    induction l with
    | nil => intro _; simp [bysR]
    | cons x l ih =>
      intro hm
      have h1 := hm x (by simp)
      have h2 := ih fun y hy => hm y (by simp [hy])
      rw [bysR]
      simp only [List.length_append, List.length_cons]
      omega
  cases l with
  | nil => simp [bysL]
  | cons x xs =>
    have h1 := hx x (by simp)
    have h2 := hr xs fun y hy => hx y (by simp [hy])
    rw [bysL]
    simp only [List.length_append, List.length_cons, List.length_nil] at hl ⊢
    omega
theorem fun_sz (k : Nat) : (funcsT.getD k []).length ≤ 8 := by
  rw [List.getD_eq_getElem?_getD]
  match k with
  | 0 => decide
  | 1 => decide
  | 2 => decide
  | 3 => decide
  | 4 => decide
  | 5 => decide
  | 6 => decide
  | 7 => decide
  | n + 8 => simp [funcsT]
theorem gnode_len {ns : List ByteArray} {most : Int} (hn : NamesOk ns) (hm : most ≤ 4096) {d : Nd} {n : Nat} (h : GoodN ns most d n) : (d.kind = 0 → (numL d.num d.den).length ≤ 160) ∧ (d.kind = 1 → (selL d).length ≤ 160) ∧ (d.kind = 2 → (grpL d).length ≤ 90) ∧ (d.kind = 0 → natE d.num d.den = true) := by
  cases h with
  | num x hx =>
    have hz : natE x 1 = true := by
      unfold numsL at hx
      unfold natE
      simp only [List.mem_cons, List.not_mem_nil, or_false] at hx
      simp only [Bool.and_eq_true, decide_eq_true_eq, beq_self_eq_true, true_and]
      omega
    refine ⟨fun _ => ?_, fun h => by simp at h, fun h => by simp at h, fun _ => hz⟩
    have hb : 0 ≤ x ∧ x ≤ 1073741824 := by unfold natE at hz; simpa using hz
    unfold numL
    simp only
    rw [if_pos hz]
    have := itoa_sz x (by omega) (by omega)
    omega
  | sel fn win off k nm ms h1 h2 hnm ho ho2 hw hk hl hms =>
    refine ⟨fun h => by simp at h, fun _ => ?_, fun h => by simp at h, fun h => by simp at h⟩
    have z1 := (hn nm hnm).2.2
    rw [← data_size] at z1
    have z2 := gmats_len hms hl
    have z3 := fun_sz fn.toNat
    have z4 : (Lib.itoa off).length ≤ 21 := itoa_sz off (by omega) (by omega)
    have z5 : (Lib.itoa win).length ≤ 21 := itoa_sz win (by omega) (by omega)
    have z6 : (Lib.itoa k).length ≤ 21 := itoa_sz k (by omega) (by omega)
    unfold selL funL offL
    simp only [List.length_append]
    have z7 : (if fn = 0 then ([] : List UInt8) else 46 :: (funcsT.getD fn.toNat [] ++ (40 :: (Lib.itoa win ++ ((if fn = 7 then 44 :: Lib.itoa k else []) ++ [41]))))).length ≤ 60 := by
      split
      · simp
      · split <;> simp only [List.length_append, List.length_cons, List.length_nil] <;> omega
    have z8 : (if off = 0 then ([] : List UInt8) else 64 :: Lib.itoa off).length ≤ 22 := by
      split
      · simp
      · simp only [List.length_cons]; omega
    omega
  | grp fn k bys h1 h2 hk hb =>
    refine ⟨fun h => by simp at h, fun h => by simp at h, fun _ => ?_, fun h => by simp at h⟩
    have z1 := gbys_len hb
    have z2 := grpSz fn.toNat
    have z3 : (Lib.itoa k).length ≤ 21 := itoa_sz k (by omega) (by omega)
    unfold grpL
    simp only [List.length_append]
    have z7 : (if fn = 4 then 40 :: (Lib.itoa k ++ [41]) else if bys.isEmpty then ([] : List UInt8) else [32]).length ≤ 23 := by
      split
      · simp only [List.length_append, List.length_cons, List.length_nil]; omega
      · split <;> simp
    omega
  | bin fn h1 h2 => exact ⟨fun h => by simp at h, fun h => by simp at h, fun h => by simp at h, fun h => by simp at h⟩
theorem good_show {ns : List ByteArray} {most : Int} (hn : NamesOk ns) (hm : most ≤ 4096) {t : Tree} (h : GoodT ns most t) : (showT t).length ≤ 100 * nds t + 60 ∧ natT t = true := by
  induction h with
  | mk d ks hd hk ih =>
    have h1 := good_chk1 hd hn hm
    obtain ⟨n0, n1, n2, n3⟩ := gnode_len hn hm hd
    have hnat : natT (.node d ks) = true := by
      rw [natT]
      have a : (!(d.kind == 0) || natE d.num d.den) = true := by
        by_cases h0 : d.kind = 0
        · rw [n3 h0]; simp
        · simp [h0]
      rw [a, Bool.true_and]
      clear hd h1 hk n0 n1 n2 n3 a
      induction ks with
      | nil => rfl
      | cons x xs ihx => rw [natL, (ih x (by simp)).2, ihx fun t ht => ih t (by simp [ht])]; rfl
    refine ⟨?_, hnat⟩
    rw [showT, nds]
    unfold joinN
    rcases shape_cases (chk1_all h1).1 with hk' | hk' | hk' | hk'
    · rw [if_pos hk'.1]; have := n0 hk'.1; omega
    · rw [if_neg (by omega), if_pos hk'.1]; have := n1 hk'.1; omega
    · rw [if_neg (by omega), if_neg (by omega), if_pos hk'.1]
      match ks, hk'.2.1 with
      | [t], _ =>
        have := (ih t (by simp)).1
        have h3 := n2 hk'.1
        simp only [showL, ndsL, List.headD_cons, List.length_append, List.length_cons, List.length_nil]
        omega
    · rw [if_neg (by omega), if_neg (by omega), if_neg (by omega)]
      match ks, hk'.2.1 with
      | [a, b], _ =>
        have i1 := (ih a (by simp)).1
        have i2 := (ih b (by simp)).1
        have e1 := encl_len (decide (precT a.d < precT d)) (showT a)
        have e2 := encl_len (decide (precT b.d ≤ precT d)) (showT b)
        have o1 := oprSz d.fn.toNat
        simp only [showL, ndsL, List.map_cons, List.map_nil, List.length_append]
        omega
/-- the generator's trees: printed and parsed back -/
theorem good_round {ns : List ByteArray} {most : Int} (hn : NamesOk ns) (hm : most ≤ 4096) {t : Tree} (h : GoodT ns most t) (h1 : dep t ≤ 12) (h2 : nds t ≤ 19) : printT t = (showT t, 0) ∧ parseT (showT t) = (t, 0, 0) ∧ (showT t).length ≤ 2000 := by
  obtain ⟨g1, g2⟩ := good_show hn hm h
  have hl : (showT t).length ≤ 2000 := by omega
  have hf : fitB t = true := by unfold fitB; simp only [Bool.and_eq_true, decide_eq_true_eq]; omega
  refine ⟨?_, parse_print (good_chk hn hm h) g2 hl hf, hl⟩
  unfold printT
  rw [if_pos (good_valid hn hm h h1 (by omega)), if_neg (by rw [prt_nat t g2]; simp), if_neg (by omega)]
end
end Go.Proofs.YthoibeajhdhdhaaDoor
