/- Contracts, packed: Lc. -/
import Derived.Test.YtkdojgkiclndfaaGreatDoorPx23
import Derived.Test.YtkdojgkiclndfaaGreatDoorPx31
set_option linter.unusedVariables false
set_option linter.unusedSimpArgs false
namespace Go.Proofs.YtkdojgkiclndfaaGreatDoor
section
open Go.RowKit FracM
def Word (w : List UInt8) : Prop := (∀ c ∈ w, wrdB c = true) ∧ (∃ c v, w = c :: v ∧ letB c = true) ∧ w.length ≤ 16
theorem bget (s : ByteArray) (k : Nat) (h : k < s.size) (h2 : k < s.data.toList.length) : s.data.toList[k] = s.get! k := by rw [get!_of s k h]; rfl
theorem name_word {s : ByteArray} (h : nameB s = true) : Word s.data.toList := by
 unfold nameB at h
 simp only [Bool.and_eq_true, decide_eq_true_eq, List.all_eq_true, List.mem_range] at h
 obtain ⟨⟨h1, h2⟩, h3⟩ := h
 have hl := data_size s
 refine ⟨fun c hc => ?_, ?_, by omega⟩
 ·obtain ⟨k, hk, rfl⟩ := List.getElem_of_mem hc
  have := h3 k (by omega)
  rw [bget s k (by omega) hk]
  generalize s.get! k = c at this ⊢
  unfold nmB lettB othB at this
  unfold wrdB letB digB
  cases hb : decide (97 ≤ c.toNat) && decide (c.toNat ≤ 122)
  ·rw [hb] at this
   simp only [Bool.false_or, Bool.and_eq_true] at this
   simpa using this.2
  ·simp
 ·cases hs : s.data.toList with
  | nil => rw [hs] at hl; simp at hl; omega
  | cons c v =>
   refine ⟨c, v, rfl, ?_⟩
   have := h3 0 (by omega)
   have hb := bget s 0 (by omega) (by rw [hs]; simp)
   simp only [hs, List.getElem_cons_zero] at hb
   rw [← hb] at this
   unfold nmB lettB at this
   unfold letB
   simpa using this
theorem value_text {s : ByteArray} (h : valueB s = true) : (∀ c ∈ s.data.toList, txtB c = true ∧ c ≠ 34) ∧ s.data.toList.length ≤ 16 := by
 unfold valueB at h
 simp only [Bool.and_eq_true, decide_eq_true_eq, List.all_eq_true, List.mem_range] at h
 obtain ⟨h1, h3⟩ := h
 have hl := data_size s
 refine ⟨fun c hc => ?_, by omega⟩
 obtain ⟨k, hk, rfl⟩ := List.getElem_of_mem hc
 have := h3 k (by omega)
 rw [bget s k (by omega) hk]
 generalize s.get! k = c at this ⊢
 unfold vlB at this
 simp only [Bool.and_eq_true, decide_eq_true_eq, Bool.not_eq_true', Bool.or_eq_false_iff, beq_eq_false_iff_ne] at this
 unfold txtB
 simp only [Bool.and_eq_true, decide_eq_true_eq, bne_iff_ne]
 refine ⟨by omega, fun h => ?_⟩
 subst h
 simp at this
theorem word_one {w : List UInt8} (h1 : (w.all wrdB && decide (w.length ≤ 16) && (match w with | [] => false | c :: _ => letB c)) = true) : Word w := by
 simp only [Bool.and_eq_true, List.all_eq_true, decide_eq_true_eq] at h1
 refine ⟨h1.1.1, ?_, h1.1.2⟩
 cases w with
 | nil => exact absurd h1.2 (by simp)
 | cons c v => exact ⟨c, v, rfl, h1.2⟩
theorem fun_word (k : Nat) (h : k < 8) : Word (funcsT.getD k []) := by
 match k, h with
 | 0, _ => exact word_one (by decide)
 | 1, _ => exact word_one (by decide)
 | 2, _ => exact word_one (by decide)
 | 3, _ => exact word_one (by decide)
 | 4, _ => exact word_one (by decide)
 | 5, _ => exact word_one (by decide)
 | 6, _ => exact word_one (by decide)
 | 7, _ => exact word_one (by decide)
theorem grp_wordT (k : Nat) (h : k < 5) : Word (groupsT.getD k []) := by
 match k, h with
 | 0, _ => exact word_one (by decide)
 | 1, _ => exact word_one (by decide)
 | 2, _ => exact word_one (by decide)
 | 3, _ => exact word_one (by decide)
 | 4, _ => exact word_one (by decide)
theorem by_word : Word [98, 121] := word_one (by decide)
theorem Lx.w {w r : List UInt8} {es : List ETok} (h1 : Word w) (hr : nh wrdB r) (h : Lx r es) : Lx (w ++ r) (eW w :: es) := Lx.word h1.1 h1.2.1 h1.2.2 hr h
theorem nh_dig {r : List UInt8} (h : nh wrdB r) : nh digB r := fun c hc => by
 have := h c hc
 unfold wrdB at this
 simp only [Bool.or_eq_false_iff] at this
 exact this.1.2
def tNum (n d : Int) : List ETok := if natE n d then [eN n] else eS [40] :: ((if n < 0 then [eN 0, eS [45]] else []) ++ (eN (absI n) :: ((if d = 1 then [] else [eS [47], eN d]) ++ [eS [41]])))
def tMtc (m : Mat) : List ETok := [eW m.1.data.toList, eS (matchT.getD m.2.1.toNat []), eX m.2.2.data.toList]
def tMatsR : List Mat → List ETok
 | [] => [eS [125]]
 | m :: ms => eS [44] :: (tMtc m ++ tMatsR ms)
def tMats : List Mat → List ETok
 | [] => []
 | m :: ms => eS [123] :: (tMtc m ++ tMatsR ms)
def tFnc (fn win k : Int) : List ETok := if fn = 0 then [] else eS [46] :: eW (funcsT.getD fn.toNat []) :: eS [40] :: eN win :: ((if fn = 7 then [eS [44], eN k] else []) ++ [eS [41]])
def tOff (o : Int) : List ETok := if o = 0 then [] else [eS [64], eN o]
def tSel (d : Nd) : List ETok := eW d.name.data.toList :: (tMats d.ms ++ (tFnc d.fn d.win d.k ++ tOff d.off))
def tBysR : List ByteArray → List ETok
 | [] => [eS [41]]
 | x :: xs => eS [44] :: eW x.data.toList :: tBysR xs
def tBys : List ByteArray → List ETok
 | [] => []
 | x :: xs => eW [98, 121] :: eS [40] :: eW x.data.toList :: tBysR xs
def tGrup (d : Nd) : List ETok := eW (groupsT.getD d.fn.toNat []) :: ((if d.fn = 4 then [eS [40], eN d.k, eS [41]] else []) ++ tBys d.bys)
def tEncl (b : Bool) (l : List ETok) : List ETok := if b then eS [40] :: (l ++ [eS [41]]) else l
def tJoin (d : Nd) (ds : List Nd) (ls : List (List ETok)) : List ETok :=
 if d.kind = 0 then tNum d.num d.den
 else if d.kind = 1 then tSel d
 else if d.kind = 2 then tGrup d ++ (eS [40] :: (ls.headD [] ++ [eS [41]]))
 else match ds, ls with
  | [a, b], [x, y] => tEncl (decide (precT a < precT d)) x ++ (eS (opersT.getD d.fn.toNat []) :: tEncl (decide (precT b ≤ precT d)) y)
  | _, _ => []
mutual
def toksT : Tree → List ETok
 | .node d ks => tJoin d (ks.map Tree.d) (toksL ks)
def toksL : List Tree → List (List ETok)
 | [] => []
 | t :: ts => toksT t :: toksL ts
end
theorem nhs {c : UInt8} {r : List UInt8} (h : wrdB c = false) : nh wrdB (c :: r) := nh_cons h
theorem absI_nn (n : Int) : 0 ≤ absI n := by unfold absI; split <;> omega
theorem Lx_num {n d : Int} {r : List UInt8} {es : List ETok} (hw : writB n d = true) (hd : 1 ≤ d) (hr : nh wrdB r) (h : Lx r es) : Lx (numL n d ++ r) (tNum n d ++ es) := by
 have hb : (-1073741824 ≤ n ∧ n ≤ 1073741824) ∧ d ≤ 1073741824 := by simpa [writB] using hw
 unfold numL tNum
 split
 ·next hn =>
  unfold natE at hn
  simp only [Bool.and_eq_true, decide_eq_true_eq] at hn
  exact Lx.num hn.1.2 hn.2 (nh_dig hr) h
 ·unfold numB
  have ha : absI n ≤ 1073741824 := by unfold absI; split <;> omega
  have h1 : Lx (41 :: r) (eS [41] :: es) := Lx.sym (by decide) h
  have h2 : Lx ((if d = 1 then [] else 47 :: Lib.itoa d) ++ 41 :: r) ((if d = 1 then [] else [eS [47], eN d]) ++ eS [41] :: es) := by
   split
   ·exact h1
   ·exact Lx.sym (by decide) (Lx.num (by omega) hb.2 (nh_cons (by decide)) h1)
  have h3 : nh digB ((if d = 1 then [] else 47 :: Lib.itoa d) ++ 41 :: r) := by
   split <;> exact nh_cons (by decide)
  have h4 := Lx.num (absI_nn n) ha h3 h2
  have h5 : Lx ((if n < 0 then [48, 45] else []) ++ (Lib.itoa (absI n) ++ ((if d = 1 then [] else 47 :: Lib.itoa d) ++ 41 :: r))) ((if n < 0 then [eN 0, eS [45]] else []) ++ (eN (absI n) :: ((if d = 1 then [] else [eS [47], eN d]) ++ eS [41] :: es))) := by
   split
   ·have h6 := Lx.num (n := 0) (r := 45 :: (Lib.itoa (absI n) ++ ((if d = 1 then [] else 47 :: Lib.itoa d) ++ 41 :: r))) (by omega) (by omega) (nh_cons (by decide)) (Lx.sym (by decide) h4)
    have e0 : Lib.itoa 0 = [48] := by decide +kernel
    rw [e0] at h6
    simpa using h6
   ·simpa using h4
  have h7 := Lx.sym (c := 40) (by decide) h5
  simpa [List.append_assoc] using h7
theorem Lx_msym {k : Nat} {r : List UInt8} {es : List ETok} (hk : k < 3) (h : Lx r es) : Lx (matchT.getD k [] ++ r) (eS (matchT.getD k []) :: es) := by
 match k, hk with
 | 0, _ => exact Lx.sym (by decide) h
 | 1, _ => exact Lx.sym2 (.inl rfl) h
 | 2, _ => exact Lx.sym2 (.inr rfl) h
theorem nh_msym {k : Nat} {r : List UInt8} (hk : k < 3) : nh wrdB (matchT.getD k [] ++ r) := by
 match k, hk with
 | 0, _ => exact nh_cons (by decide)
 | 1, _ => exact nh_cons (by decide)
 | 2, _ => exact nh_cons (by decide)
theorem Lx_mat {m : Mat} {r : List UInt8} {es : List ETok} (hm : vmatB m = true) (h : Lx r es) : Lx (matL m ++ r) (tMtc m ++ es) := by
 unfold vmatB at hm
 simp only [Bool.and_eq_true, decide_eq_true_eq] at hm
 obtain ⟨⟨h1, h2⟩, h3⟩ := hm
 obtain ⟨v1, v2⟩ := value_text h3
 have hk : m.2.1.toNat < 3 := by omega
 have hx := Lx.w (name_word h1) (nh_msym hk) (Lx_msym hk (Lx.text v1 v2 h))
 unfold matL tMtc
 simpa [List.append_assoc] using hx
theorem Lx_matsR {ms : List Mat} {r : List UInt8} {es : List ETok} (hm : ∀ m ∈ ms, vmatB m = true) (h : Lx r es) : Lx (matsR ms ++ r) (tMatsR ms ++ es) := by
 induction ms with
 | nil => exact Lx.sym (by decide) h
 | cons m ms ih =>
  rw [matsR, tMatsR]
  have h1 := Lx.sym (c := 44) (by decide) (Lx_mat (hm m (by simp)) (ih fun x hx => hm x (by simp [hx])))
  simpa [List.append_assoc] using h1
theorem Lx_mats {ms : List Mat} {r : List UInt8} {es : List ETok} (hm : ∀ m ∈ ms, vmatB m = true) (h : Lx r es) : Lx (matsL ms ++ r) (tMats ms ++ es) := by
 cases ms with
 | nil => exact h
 | cons m ms =>
  rw [matsL, tMats]
  have h1 := Lx.sym (c := 123) (by decide) (Lx_mat (hm m (by simp)) (Lx_matsR (ms := ms) (fun x hx => hm x (by simp [hx])) h))
  simpa [List.append_assoc] using h1
theorem nh_mats {ms : List Mat} {r : List UInt8} (h : nh wrdB r) : nh wrdB (matsL ms ++ r) := by
 cases ms with
 | nil => exact h
 | cons m ms => exact nh_cons (by decide)
theorem Lx_off {o : Int} {r : List UInt8} {es : List ETok} (ho : 0 ≤ o ∧ o ≤ 4096) (hr : nh wrdB r) (h : Lx r es) : Lx (offL o ++ r) (tOff o ++ es) := by
 unfold offL tOff
 split
 ·exact h
 ·exact Lx.sym (by decide) (Lx.num ho.1 (by omega) (nh_dig hr) h)
theorem nh_off {o : Int} {r : List UInt8} (h : nh wrdB r) : nh wrdB (offL o ++ r) := by
 unfold offL
 split
 ·exact h
 ·exact nh_cons (by decide)
theorem Lx_fun {fn win k : Int} {r : List UInt8} {es : List ETok} (hf : 0 ≤ fn ∧ fn ≤ 7) (hw : fn ≠ 0 → 1 ≤ win ∧ win ≤ 4096) (hk : fn = 7 → 1 ≤ k ∧ k ≤ 4096) (h : Lx r es) : Lx (funL fn win k ++ r) (tFnc fn win k ++ es) := by
 unfold funL tFnc
 split
 ·exact h
 ·next h0 =>
  have h1 : Lx (41 :: r) (eS [41] :: es) := Lx.sym (by decide) h
  have h2 : Lx ((if fn = 7 then 44 :: Lib.itoa k else []) ++ 41 :: r) ((if fn = 7 then [eS [44], eN k] else []) ++ eS [41] :: es) := by
   split
   ·next h7 => exact Lx.sym (by decide) (Lx.num (by have := hk h7; omega) (by have := hk h7; omega) (nh_cons (by decide)) h1)
   ·exact h1
  have h3 : nh digB ((if fn = 7 then 44 :: Lib.itoa k else []) ++ 41 :: r) := by split <;> exact nh_cons (by decide)
  have h4 := Lx.sym (c := 46) (by decide) (Lx.w (fun_word fn.toNat (by omega)) (nhs (by decide)) (Lx.sym (c := 40) (by decide) (Lx.num (n := win) (by have := hw h0; omega) (by have := hw h0; omega) h3 h2)))
  simpa [List.append_assoc] using h4
theorem nh_fun {fn win k : Int} {r : List UInt8} (h : nh wrdB r) : nh wrdB (funL fn win k ++ r) := by
 unfold funL
 split
 ·exact h
 ·exact nh_cons (by decide)
/-- what the numbers of a selection are -/
structure SelOk (d : Nd) : Prop where
 name : nameB d.name = true
 ms : ∀ m ∈ d.ms, vmatB m = true
 fn : 0 ≤ d.fn ∧ d.fn ≤ 7
 win : d.fn ≠ 0 → 1 ≤ d.win ∧ d.win ≤ 4096
 k : d.fn = 7 → 1 ≤ d.k ∧ d.k ≤ d.win
 off : 0 ≤ d.off ∧ d.off ≤ 4096
theorem Lx_sel {d : Nd} {r : List UInt8} {es : List ETok} (hd : SelOk d) (hr : nh wrdB r) (h : Lx r es) : Lx (selL d ++ r) (tSel d ++ es) := by
 have h1 := Lx.w (name_word hd.name) (nh_mats (ms := d.ms) (nh_fun (fn := d.fn) (win := d.win) (k := d.k) (nh_off (o := d.off) hr))) (Lx_mats hd.ms (Lx_fun hd.fn hd.win (fun h7 => by have := hd.k h7; have := hd.win (by omega); omega) (Lx_off hd.off hr h)))
 unfold selL tSel
 simpa [List.append_assoc] using h1
theorem Lx_bysR {l : List ByteArray} {r : List UInt8} {es : List ETok} (hl : ∀ x ∈ l, nameB x = true) (h : Lx r es) : Lx (bysR l ++ r) (tBysR l ++ es) := by
 induction l with
 | nil => exact Lx.sym (by decide) h
 | cons x xs ih =>
  rw [bysR, tBysR]
  have hn : nh wrdB (bysR xs ++ r) := by cases xs <;> exact nh_cons (by decide)
  have h1 := Lx.sym (c := 44) (by decide) (Lx.w (name_word (hl x (by simp))) hn (ih fun y hy => hl y (by simp [hy])))
  simpa [List.append_assoc] using h1
theorem Lx_bys {l : List ByteArray} {r : List UInt8} {es : List ETok} (hl : ∀ x ∈ l, nameB x = true) (h : Lx r es) : Lx (bysL l ++ r) (tBys l ++ es) := by
 cases l with
 | nil => exact h
 | cons x xs =>
  rw [bysL, tBys]
  have hn : nh wrdB (bysR xs ++ r) := by cases xs <;> exact nh_cons (by decide)
  have h1 := Lx.w (w := [98, 121]) by_word (nhs (by decide)) (Lx.sym (c := 40) (by decide) (Lx.w (name_word (hl x (by simp))) hn (Lx_bysR (fun y hy => hl y (by simp [hy])) h)))
  simpa [List.append_assoc] using h1
/-- .. of a group -/
structure GrpOk (d : Nd) : Prop where
 fn : 0 ≤ d.fn ∧ d.fn ≤ 4
 k : d.fn = 4 → 1 ≤ d.k ∧ d.k ≤ 4096
 bys : ∀ x ∈ d.bys, nameB x = true
theorem Lx_grp {d : Nd} {r : List UInt8} {es : List ETok} (hd : GrpOk d) (hr : nh wrdB r) (h : Lx r es) : Lx (grpL d ++ r) (tGrup d ++ es) := by
 have h1 := Lx_bys hd.bys h
 have hn1 : nh wrdB (bysL d.bys ++ r) ∨ d.bys ≠ [] := by
  cases hb : d.bys with
  | nil => exact .inl hr
  | cons x xs => exact .inr (by simp)
 have h2 : Lx ((if d.fn = 4 then 40 :: (Lib.itoa d.k ++ [41]) else if d.bys.isEmpty then [] else [32]) ++ (bysL d.bys ++ r)) ((if d.fn = 4 then [eS [40], eN d.k, eS [41]] else []) ++ (tBys d.bys ++ es)) := by
  split
  ·next h4 =>
   have h3 := Lx.sym (c := 40) (by decide) (Lx.num (n := d.k) (by have := hd.k h4; omega) (by have := hd.k h4; omega) (nh_cons (by decide)) (Lx.sym (c := 41) (by decide) h1))
   simpa [List.append_assoc] using h3
  ·split
   ·exact h1
   ·exact Lx.spc (by decide) h1
 have hn2 : nh wrdB ((if d.fn = 4 then 40 :: (Lib.itoa d.k ++ [41]) else if d.bys.isEmpty then [] else [32]) ++ (bysL d.bys ++ r)) := by
  split
  ·exact nh_cons (by decide)
  ·split
   ·next he =>
    rcases hn1 with hn1 | hn1
    ·exact hn1
    ·simp at he; exact absurd he hn1
   ·exact nh_cons (by decide)
 have h4 := Lx.w (grp_wordT d.fn.toNat (by have := hd.fn; omega)) hn2 h2
 unfold grpL tGrup
 simpa [List.append_assoc] using h4
theorem Lx_encl {q : Bool} {l r : List UInt8} {ts es : List ETok} (hr : nh wrdB r) (hl : ∀ r' es', nh wrdB r' → Lx r' es' → Lx (l ++ r') (ts ++ es')) (h : Lx r es) : Lx (encl q l ++ r) (tEncl q ts ++ es) := by
 cases q
 ·exact hl r es hr h
 ·have h1 := Lx.sym (c := 40) (by decide) (hl (41 :: r) (eS [41] :: es) (nh_cons (by decide)) (Lx.sym (c := 41) (by decide) h))
  unfold encl tEncl
  simpa [List.append_assoc] using h1
theorem psel_ok {d : Nd} {n : Nat} (h : chk1 d n = 0) (hk : d.kind = 1) : SelOk d := by
 obtain ⟨a1, a2, a3, a4, a5⟩ := chk1_all h
 unfold namedB at a2
 simp only [Bool.and_eq_true, List.all_eq_true] at a2
 unfold rangedB at a5
 rw [if_pos hk] at a5
 simp only [Bool.and_eq_true, decide_eq_true_eq] at a5
 refine ⟨by have := a2.1.1; rw [show (d.kind == 1) = true by simpa using hk] at this; simp at this; exact this.1, a2.1.2, by rcases shape_cases a1 with h | h | h | h <;> omega, fun hf => ?_, fun hf => ?_, a5.1⟩
 ·have := a5.2; rw [if_neg hf] at this; simp only [Bool.and_eq_true, decide_eq_true_eq] at this; omega
 ·have := a5.2; rw [if_neg (by omega), if_pos hf] at this; simp only [Bool.and_eq_true, decide_eq_true_eq] at this; omega
theorem pgrp_ok {d : Nd} {n : Nat} (h : chk1 d n = 0) (hk : d.kind = 2) : GrpOk d := by
 obtain ⟨a1, a2, a3, a4, a5⟩ := chk1_all h
 unfold namedB at a2
 simp only [Bool.and_eq_true, List.all_eq_true] at a2
 unfold rangedB at a5
 rw [if_neg (by omega), if_pos hk] at a5
 refine ⟨by rcases shape_cases a1 with h | h | h | h <;> omega, fun hf => ?_, bysFrom_names a2.2⟩
 rw [if_pos hf] at a5
 simpa [Bool.and_eq_true, decide_eq_true_eq] using a5
theorem opr_sym (k : Nat) (h : k < 4) : ∃ c, opersT.getD k [] = [c] ∧ symB c = true := by
 match k, h with
 | 0, _ => exact ⟨_, rfl, by decide⟩
 | 1, _ => exact ⟨_, rfl, by decide⟩
 | 2, _ => exact ⟨_, rfl, by decide⟩
 | 3, _ => exact ⟨_, rfl, by decide⟩
theorem sym_nw {c : UInt8} (h : symB c = true) : wrdB c = false := by
 have : c = 43 ∨ c = 45 ∨ c = 42 ∨ c = 47 ∨ c = 40 ∨ c = 41 ∨ c = 123 ∨ c = 125 ∨ c = 44 ∨ c = 46 ∨ c = 64 ∨ c = 61 := by
  unfold symB at h; simpa using h
 rcases this with rfl | rfl | rfl | rfl | rfl | rfl | rfl | rfl | rfl | rfl | rfl | rfl <;> decide
/-- the text of a tree lexes to its tokens -/
theorem Lx_show : ∀ t, chk t = 0 → prtB t = true → ∀ r es, nh wrdB r → Lx r es → Lx (showT t ++ r) (toksT t ++ es) := Tree.ind fun d ks ih hc hp r es hr h => by
 obtain ⟨h1, h2⟩ := chk_ok hc
 obtain ⟨a1, _⟩ := chk1_all h1
 rw [showT, toksT]
 unfold joinN tJoin
 rcases shape_cases a1 with hk | hk | hk | hk
 ·simp only [if_pos hk.1]
  rw [prtB, if_pos hk.1] at hp
  exact Lx_num hp (valid_iff.1 (shaped_num a1 hk.1)).1 hr h
 ·simp only [if_neg (show ¬ d.kind = 0 by omega), if_pos hk.1]
  exact Lx_sel (psel_ok h1 hk.1) hr h
 ·simp only [if_neg (show ¬ d.kind = 0 by omega), if_neg (show ¬ d.kind = 1 by omega), if_pos hk.1]
  rw [prtB, if_neg (by omega)] at hp
  match ks, hk.2.1 with
  | [t], _ =>
   have h3 := ih t (by simp) (h2 t (by simp)) (prtL_all hp t (by simp)) (41 :: r) (eS [41] :: es) (nh_cons (by decide)) (Lx.sym (by decide) h)
   have h4 := Lx_grp (pgrp_ok h1 hk.1) (nhs (by decide)) (Lx.sym (c := 40) (by decide) h3)
   simpa [showL, toksL, List.append_assoc] using h4
 ·simp only [if_neg (show ¬ d.kind = 0 by omega), if_neg (show ¬ d.kind = 1 by omega), if_neg (show ¬ d.kind = 2 by omega)]
  rw [prtB, if_neg (by omega)] at hp
  match ks, hk.2.1 with
  | [a, b], _ =>
   obtain ⟨c, hc1, hc2⟩ := opr_sym d.fn.toNat (by omega)
   have h3 := Lx_encl (q := decide (precT b.d ≤ precT d)) hr (ih b (by simp) (h2 b (by simp)) (prtL_all hp b (by simp))) h
   have h4 := Lx.sym hc2 h3
   have h5 := Lx_encl (q := decide (precT a.d < precT d)) (nh_cons (sym_nw hc2)) (ih a (by simp) (h2 a (by simp)) (prtL_all hp a (by simp))) h4
   simp only [showL, toksL, List.map_cons, List.map_nil]
   rw [hc1]
   simpa [List.append_assoc] using h5
end
end Go.Proofs.YtkdojgkiclndfaaGreatDoor
