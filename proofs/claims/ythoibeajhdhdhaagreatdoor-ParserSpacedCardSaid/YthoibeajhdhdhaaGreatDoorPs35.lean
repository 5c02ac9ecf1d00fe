/- Contracts, packed: Lh Ob Sn Ss. -/
import Derived.Test.YthoibeajhdhdhaaGreatDoorPs2
import Derived.Test.YthoibeajhdhdhaaGreatDoorPs31
import Derived.Test.YthoibeajhdhdhaaGreatDoorPs33
import Derived.Test.YthoibeajhdhdhaaGreatDoorPs34
import Derived.Deep.CutBlock
set_option linter.unusedVariables false
set_option linter.unusedSimpArgs false
namespace Go.Proofs.YthoibeajhdhdhaaGreatDoor
section
open Go.RowKit FracM
theorem lexM_len : ∀ (n i : Nat) (l : List UInt8), (lexM n i l).1.length ≤ l.length := by
 intro n
 induction n with
 | zero => intro i l; simp [lexM]
 | succ n ih =>
  intro i l
  cases l with
  | nil => simp [lexM]
  | cons c r =>
   rw [lexM]
   split
   ·have := ih (i + 1) r
    simp only [List.length_cons]
    omega
   ·split
    ·next h =>
     have hp := tok_pos h
     have := ih (i + (tokM i c r).2.2) ((c :: r).drop (tokM i c r).2.2)
     simp only [List.length_cons, List.length_drop] at this ⊢
     omega
    ·simp
theorem Lx_nil : Lx [] [] := fun n i _ => by cases n <;> exact ⟨[], rfl, rfl⟩
/-- Parse undoes Print -/
theorem parse_show {t : Tree} (hc : chk t = 0) (hp : prtB t = true) (hl : (showT t).length ≤ 2000) (hf : fitB (norm t) = true) : parseT (showT t) = (norm t, 0, 0) := by
 have hx := Lx_show t hc hp [] [] (nh_nil _) Lx_nil
 simp only [List.append_nil] at hx
 obtain ⟨T, h1, h2⟩ := hx (showT t).length 0 (Nat.le_refl _)
 have hlen : (toksT t).length < (showT t).length + 1 := by
  have := lexM_len (showT t).length 0 (showT t)
  rw [h1] at this
  simp only at this
  rw [← h2, List.length_map]
  omega
 obtain ⟨us, h3, h4⟩ := expr_done ((back_all t hc).expr (showT t).length ((showT t).length + 1) T [] hlen (by simpa using h2) ⟨⟨rfl, rfl, rfl⟩, rfl, rfl⟩) ⟨⟨⟨rfl, rfl, rfl⟩, rfl, rfl⟩, rfl, rfl⟩
 have hu : us = [] := by simpa using h4
 subst hu
 unfold parseT
 rw [if_neg (by omega), h1]
 simp only [↓reduceIte]
 rw [show exprOf (facM ↑(showT t).length ((showT t).length + 1)) T = .ok (norm t, []) from h3]
 simp only
 rw [if_pos hf]
mutual
/-- all its numbers are natural -/
def natT : Tree → Bool
 | .node d ks => (!(d.kind == 0) || natE d.num d.den) && natL ks
def natL : List Tree → Bool
 | [] => true
 | t :: ts => natT t && natL ts
end
theorem natL_all {ks : List Tree} (h : natL ks = true) : ∀ t ∈ ks, natT t = true := by
 induction ks with
 | nil => intro t ht; cases ht
 | cons x xs ih =>
  rw [natL] at h
  simp only [Bool.and_eq_true] at h
  intro t ht
  rcases List.mem_cons.1 ht with rfl | ht
  ·exact h.1
  ·exact ih h.2 t ht
theorem norm_nat : ∀ t, chk t = 0 → natT t = true → norm t = t := Tree.ind fun d ks ih hc hn => by
 obtain ⟨h1, h2⟩ := chk_ok hc
 obtain ⟨a1, _⟩ := chk1_all h1
 rw [natT] at hn
 simp only [Bool.and_eq_true] at hn
 rw [norm]
 by_cases hk : d.kind = 0
 ·rw [if_pos hk]
  have hz : natE d.num d.den = true := by have := hn.1; rw [show (d.kind == 0) = true by simpa using hk] at this; simpa using this
  unfold normN
  rw [if_pos hz]
  unfold shapedB at a1
  rw [if_pos hk] at a1
  unfold noSelB at a1
  simp only [Bool.and_eq_true, decide_eq_true_eq, beq_iff_eq, List.isEmpty_iff] at a1
  obtain ⟨⟨⟨⟨⟨b1, b2⟩, b3⟩, b4⟩, b5⟩, b6⟩ := a1
  obtain ⟨kd, fn, wi, of, k, nu, de, na, ms, bys⟩ := d
  simp only at b1 b2 b3 b4 b5 b6 hk hz
  obtain ⟨⟨⟨c1, c2⟩, c3⟩, c4⟩ := b3
  have c3' := ba_nil (s := na) (by simpa using c3)
  unfold natE at hz
  simp only [Bool.and_eq_true, beq_iff_eq] at hz
  obtain rfl : ks = [] := List.eq_nil_of_length_eq_zero b2
  obtain rfl := hz.1.1
  subst c1 c2 c3' c4 b1 b4 b5 hk
  rfl
 ·rw [if_neg hk, normL_eq]
  congr 1
  exact (List.map_congr_left fun t ht => ih t ht (h2 t ht) (natL_all hn.2 t ht)).trans (List.map_id ks)
theorem prt_nat : ∀ t, natT t = true → prtB t = true := Tree.ind fun d ks ih hn => by
 rw [natT] at hn
 simp only [Bool.and_eq_true] at hn
 rw [prtB]
 by_cases hk : d.kind = 0
 ·rw [if_pos hk]
  have hz : natE d.num d.den = true := by have := hn.1; rw [show (d.kind == 0) = true by simpa using hk] at this; simpa using this
  unfold natE at hz
  simp only [Bool.and_eq_true, beq_iff_eq, decide_eq_true_eq] at hz
  unfold writB
  simp only [Bool.and_eq_true, decide_eq_true_eq]
  omega
 ·rw [if_neg hk]
  have h2 := natL_all hn.2
  clear hn
  induction ks with
  | nil => rfl
  | cons x xs ihx =>
   rw [prtL, ih x (by simp) (h2 x (by simp)), ihx (fun t ht => ih t (by simp [ht])) (fun t ht => h2 t (by simp [ht]))]
   rfl
/-- Parse undoes Print on trees whose numbers are natural -/
theorem parse_print {t : Tree} (hc : chk t = 0) (hn : natT t = true) (hl : (showT t).length ≤ 2000) (hf : fitB t = true) : parseT (showT t) = (t, 0, 0) := by
 have h := parse_show hc (prt_nat t hn) hl (by rw [norm_nat t hc hn]; exact hf)
 rwa [norm_nat t hc hn] at h
end
section
open Go.RowKit
def nqB (c : UInt8) : Bool := c.toNat != 34
theorem ixb_tw (l : List UInt8) : Lib.indexByte l 34 = if (l.takeWhile nqB).length = l.length then -1 else ((l.takeWhile nqB).length : Int) := by
 induction l with
 | nil => rfl
 | cons b l ih =>
  unfold Lib.indexByte
  by_cases hb : b = 34
  ·subst hb
   have hq : nqB 34 = false := by decide
   rw [if_pos (by simp), List.takeWhile_cons, hq]
   simp
  ·have hq : nqB b = true := by
    unfold nqB
    simp only [bne_iff_ne, ne_eq]
    intro h
    exact hb (by rw [← UInt8.toNat_inj]; exact h)
   rw [if_neg (by simpa using hb), ih, List.takeWhile_cons, if_pos hq]
   simp only [List.length_cons]
   have hle := (List.takeWhile_prefix (l := l) nqB).length_le
   by_cases he : (l.takeWhile nqB).length = l.length
   ·rw [if_pos he, if_pos (by simp), if_pos (by omega)]
   ·rw [if_neg he, if_neg (by simp), if_neg (by omega)]; push_cast; rfl
/-- a text in quotes: what the lexer reads, by the place of the second quote -/
theorem tokT_rq {s : ByteArray} {i n : Nat} {tl : List UInt8} (hi : i < s.size) (htl : (s.data.toList.drop (i + 1)).takeWhile nqB = tl) (hn : tl.length = n) :
  tokT i (s.data.toList.drop i) = if i + 1 + n = s.size then (2, ⟨0, [], 0, 0⟩, 2) else if tl.all txtB then (if 16 < n then 4 else 0, ⟨2, tl, 0, i⟩, n + 2) else (2, ⟨0, [], 0, 0⟩, 2) := by
 have htail : (s.data.toList.drop i).tail = s.data.toList.drop (i + 1) := by rw [List.tail_drop]
 have hlen : (s.data.toList.drop (i + 1)).length = s.size - (i + 1) := by rw [List.length_drop, data_size]
 have hpre : (s.data.toList.drop (i + 1)).take n = tl := by
  rw [← hn, ← htl]; exact tw_take _ _
 unfold tokT
 rw [htail, ixb_tw, htl, hn, hlen]
 by_cases he : n = s.size - (i + 1)
 ·rw [if_pos he, if_pos (by omega), if_pos (by omega)]
 ·have hle : n ≤ s.size - (i + 1) := by rw [← hlen, ← hn, ← htl]; exact (List.takeWhile_prefix _).length_le
  have h0 : ¬ ((n : Int) < 0) := by omega
  rw [if_neg he, if_neg h0, if_neg (show ¬ (i + 1 + n = s.size) by omega)]
  rw [Int.toNat_natCast, hpre]
  by_cases h16 : 16 < n
  ·rw [if_pos (show (16 : Int) < (n : Int) by omega), if_pos h16]
  ·rw [if_neg (show ¬ (16 : Int) < (n : Int) by omega), if_neg h16]
theorem bsL_lstO (l : List UInt8) : (bsL l).data.toList = l := by simp [bsL]
theorem value_one (c : UInt8) : valueB (bsL [c]) = vlB c.toNat := by
 unfold valueB bsL
 simp [ByteArray.size, ByteArray.get!]
theorem vl_txt {c : UInt8} (h : nqB c = true) : vlB c.toNat = txtB c := by
 unfold nqB at h
 unfold vlB txtB
 have h' : (c.toNat == 34) = false := by simpa using h
 rw [h']
 simp only [Bool.false_or, bne, Bool.not_or, Bool.and_assoc]
set_option maxHeartbeats 4000000 in
set_option maxRecDepth 100000 in
theorem rquoted_any (s : ByteArray) (i : Nat) (w : World) (hi : i < s.size) (hs : s.size ≤ 4000) :
  Calls Tryz.prog 75 #[.string s, .int .i64 i] w fun e w' => w = w' ∧ ∃ x : ByteArray, x.size ≤ 4000 ∧ e = .returned (.tuple #[.string x, .int .i64 (tokT i (s.data.toList.drop i)).1]) ∧ ((tokT i (s.data.toList.drop i)).1 = 0 → x = bsL (tokT i (s.data.toList.drop i)).2.1.text ∧ (tokT i (s.data.toList.drop i)).2.2 = x.size + 2 ∧ (tokT i (s.data.toList.drop i)).2.1 = ⟨2, (tokT i (s.data.toList.drop i)).2.1.text, 0, i⟩) := by
 obtain ⟨tl, HTL⟩ : ∃ tl, Box ((s.data.toList.drop (i + 1)).takeWhile nqB = tl) := ⟨_, ⟨rfl⟩⟩
 obtain ⟨n, HNN⟩ : ∃ n, Box (tl.length = n) := ⟨_, ⟨rfl⟩⟩
 have HTR := Box.mk (tokT_rq hi HTL.out HNN.out)
 obtain ⟨R, HR⟩ : ∃ R, Box (tokT i (s.data.toList.drop i) = R) := ⟨_, ⟨rfl⟩⟩
 rw [HR.out] at HTR ⊢
 obtain ⟨en, HE⟩ : ∃ en, Box (i + 1 + twN nqB s (i + 1) = en) := ⟨_, ⟨rfl⟩⟩
 have HEN : Box (en = i + 1 + n) := ⟨by rw [← HE.out, ← HNN.out, ← HTL.out]; rfl⟩
 have HEX : Box (s.extract (i + 1) en = bsL tl) := ⟨by rw [← HE.out, ← HTL.out]; exact ext_tw _ _ _⟩
 go_enter Tryz.func75, Tryz.ntmps75
 go_wp2_with fail
 go_loop [6] (fun v => ∃ k : Nat, v = .int .i64 k ∧ k ≤ s.size ∧ Hid (k + twN nqB s k = en)) (fun v => s.size - (intOf v).toNat)
 case atStart => exact ⟨i + 1, by go_num, by omega, HE.out⟩
 case round =>
  obtain ⟨k, rfl, hk2, HK⟩ := hrel
  by_cases hgo : k < s.size ∧ ∀ h : k < s.size, nqB s[k] = true
  ·obtain ⟨hlt, hq⟩ := hgo
   have hq := hq hlt
   have hlt2 : (k : Int) < (s.size : Int) := by omega
   have HN : Hid (k + 1 + twN nqB s (k + 1) = en) := by have h5 := HK.out; rw [twN_step hlt hq] at h5; show k + 1 + twN nqB s (k + 1) = en; omega
   have g1 : ((s[k].toNat : Int) != 34) = true := by
    unfold nqB at hq
    simp only [bne_iff_ne, ne_eq] at hq ⊢
    omega
   clear hq
   go_wp2_with fail
   go_round
   case rel => exact ⟨k + 1, by go_num, by omega, HN.out⟩
   case measure => simp [intOf]; omega
  ·have hke : Hid (k = en) := by
    show k = en
    by_cases hlt : k < s.size
    ·have hq : nqB s[k] = false := by
      cases h : nqB s[k]
      ·rfl
      ·exact absurd ⟨hlt, fun _ => h⟩ hgo
     have := HK.out; rw [twN_stop hlt hq] at this; exact this
    ·have := HK.out; rw [twN_end (by omega)] at this; exact this
   obtain rfl : k = en := hke
   clear HK
   by_cases hend : k = s.size
   ·have HX : Box (R = (2, ⟨0, [], 0, 0⟩, 2)) := ⟨by rw [HTR.out, if_pos (by have := HEN.out; omega)]⟩
    have hlt2 : ¬ (k : Int) < (s.size : Int) := by omega
    have he2 : ((k : Int) == (s.size : Int)) = true := by simp; omega
    clear hgo hend
    go_wp2_with fail
    go_ret2
    exact ⟨rfl, ⟨#[]⟩, by simp [ByteArray.size], by rw [HX.out]; rfl, fun h => by rw [HX.out] at h; simp at h⟩
   ·have hlt : k < s.size := by omega
    have hlt2 : (k : Int) < (s.size : Int) := by omega
    have he2 : ((k : Int) == (s.size : Int)) = false := by simp; omega
    have hq : nqB s[k] = false := by
     cases h : nqB s[k]
     ·rfl
     ·exact absurd ⟨hlt, fun _ => h⟩ hgo
    have g1 : ((s[k].toNat : Int) != 34) = false := by
     unfold nqB at hq
     simp only [bne_eq_false_iff_eq] at hq ⊢
     omega
    have HNE : Box (¬ (i + 1 + n = s.size)) := ⟨by have := HEN.out; omega⟩
    have hik : i + 1 ≤ k := by have := HEN.out; omega
    clear hgo hq hend
    go_upto_region 7 with (fail)
    obtain ⟨x, hx⟩ : ∃ x, s.extract (i + 1) k = x := ⟨_, rfl⟩
    have HX : Box (x = bsL tl) := ⟨by rw [← hx]; exact HEX.out⟩
    have HXS : Box (x.size = n) := ⟨by rw [HX.out, bsL_size, HNN.out]⟩
    have hxs : x.size ≤ 4000 := by have := HXS.out; have := HEN.out; omega
    rw [hx]
    clear hx g1 he2
    go_wp2_with fail
    go_loop [8] (fun v => ∃ j : Nat, v = .int .i64 j ∧ j ≤ x.size ∧ Hid ((tl.take j).all txtB = true)) (fun v => x.size - (intOf v).toNat)
    case atStart => exact ⟨0, rfl, by omega, by show _ = _; simp⟩
    case round =>
     obtain ⟨j, rfl, hj, HJ⟩ := hrel
     by_cases hjl : j < x.size
     ·have hjl2 : (j : Int) < (x.size : Int) := by omega
      have hjt : j < tl.length := by have := HXS.out; have := HNN.out; omega
      have HC : Box (x.extract j (j + 1) = bsL [tl[j]]) := ⟨by
       have e : tl.drop j = tl[j] :: tl.drop (j + 1) := List.drop_eq_getElem_cons hjt
       rw [ext_bs, HX.out, bsL_lstO, e]; rfl⟩
      have hm : nqB tl[j] = true := by
       have : tl[j] ∈ (s.data.toList.drop (i + 1)).takeWhile nqB := by rw [HTL.out]; exact List.getElem_mem _
       exact List.all_eq_true.1 List.all_takeWhile _ this
      obtain ⟨q, hqq⟩ : ∃ q, txtB tl[j] = q := ⟨_, rfl⟩
      have HV : Box (∀ w, Calls Tryz.prog 107 #[.string (x.extract j (j + 1))] w fun e w' => e = .returned (.bool q) ∧ w = w') := ⟨fun w => by
       have h := rvalue_any (x.extract j (j + 1)) w (by rw [HC.out, bsL_size]; unfold maxLen; simp)
       rw [HC.out, value_one, vl_txt hm, hqq] at h
       rw [HC.out]; exact h⟩
      have HTK : Box ((tl.take (j + 1)).all txtB = q) := ⟨by
       rw [List.take_add_one, List.getElem?_eq_getElem hjt, Option.toList_some, List.all_append, HJ.out, ← hqq]; simp⟩
      clear hm hqq
      cases q
      ·have HF : Box (tl.all txtB = false) := ⟨by
        cases h : tl.all txtB
        ·rfl
        ·exfalso
         have h1 := HTK.out
         rw [List.all_eq_true] at h
         have h2 : (tl.take (j + 1)).all txtB = true := List.all_eq_true.2 fun y hy => h y (List.mem_of_mem_take hy)
         rw [h2] at h1; simp at h1⟩
       have HZ : Box (R = (2, ⟨0, [], 0, 0⟩, 2)) := ⟨by rw [HTR.out, if_neg HNE.out, HF.out]; rfl⟩
       go_wp2_with (go_at_call 107; (with_reducible refine (HV.out _).mono ?_); rintro e w' ⟨rfl, rfl⟩)
       go_ret2
       exact ⟨rfl, ⟨#[]⟩, by simp [ByteArray.size], by rw [HZ.out]; rfl, fun h => by rw [HZ.out] at h; simp at h⟩
      ·go_wp2_with (go_at_call 107; (with_reducible refine (HV.out _).mono ?_); rintro e w' ⟨rfl, rfl⟩)
       go_round
       case rel => exact ⟨j + 1, by go_num, by omega, HTK.out⟩
       case measure => simp [intOf]; omega
     ·have hjl2 : ¬ (j : Int) < (x.size : Int) := by omega
      have HF : Box (tl.all txtB = true) := ⟨by have := HJ.out; rwa [List.take_of_length_le (by have := HXS.out; have := HNN.out; omega)] at this⟩
      by_cases h16 : 16 < x.size
      ·have HZ : Box (R = (4, ⟨2, tl, 0, i⟩, n + 2)) := ⟨by rw [HTR.out, if_neg HNE.out, HF.out, if_pos rfl, if_pos (by have := HXS.out; omega)]⟩
       have h162 : (16 : Int) < (x.size : Int) := by omega
       clear h16
       go_wp2_with fail
       go_ret2
       exact ⟨rfl, ⟨#[]⟩, by simp [ByteArray.size], by rw [HZ.out]; rfl, fun h => by rw [HZ.out] at h; simp at h⟩
      ·have HZ : Box (R = (0, ⟨2, tl, 0, i⟩, n + 2)) := ⟨by rw [HTR.out, if_neg HNE.out, HF.out, if_pos rfl, if_neg (by have := HXS.out; omega)]⟩
       have h162 : ¬ (16 : Int) < (x.size : Int) := by omega
       clear h16
       go_wp2_with fail
       go_ret2
       exact ⟨rfl, x, hxs, by rw [HZ.out]; rfl, fun h => by rw [HZ.out]; exact ⟨HX.out, by have := HXS.out; show n + 2 = x.size + 2; omega, rfl⟩⟩
end
section
open Go.RowKit FracM
end
section
open Go.RowKit FracM
end
end Go.Proofs.YthoibeajhdhdhaaGreatDoor
