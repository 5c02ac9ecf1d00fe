/- Contracts, packed: Jq Bb Ug. -/
import Derived.Test.YtipafbppaaflcaaDoorPu17
import Derived.Test.YtipafbppaaflcaaDoorPu24
import Derived.Test.YtipafbppaaflcaaDoorPu38
import Derived.Test.YtipafbppaaflcaaDoorPu39
import Derived.Maps.AppendAt
set_option linter.unusedVariables false
set_option linter.unusedSimpArgs false
namespace Go.Proofs.YtipafbppaaflcaaDoor
section
open Go.RowKit FracM
set_option maxHeartbeats 1000000 in
theorem sameTexts_any (A : Option Addr) (n c : Nat) (A' : Option Addr) (n' c' : Nat) (l l' : List ByteArray) (w : World) (h : StrsP w (.slice A n c) l) (h' : StrsP w (.slice A' n' c') l') :
  Calls Tryd.prog 70 #[.slice A n c, .slice A' n' c'] w (RetB (.bool (sameB l l')) w) := by
 obtain ⟨hn, hm⟩ := h.len
 obtain ⟨hn', hm'⟩ := h'.len
 have HS := Box.mk (And.intro h h')
 clear h h'
 by_cases hl : n = n'
 ·subst hl
  have HN := Box.mk (And.intro hn hn')
  clear hn hn'
  have hne : ((n : Int) != (n : Int)) = false := by simp
  go_enter Tryd.func70, Tryd.ntmps70
  go_wp2_with fail
  go_loopw [5] (fun v wr => ∃ k : Nat, k ≤ n ∧ v = .int .i64 (k : Nat) ∧ Below w.heap.size w wr ∧ Box (sameB (l.drop k) (l'.drop k) = sameB l l')) (fun v _ => n - (intOf v).toNat)
  case atStart => exact ⟨0, by omega, rfl, Below.refl _ _, ⟨rfl⟩⟩
  case round =>
   obtain ⟨k, hk, rfl, hb, HA⟩ := hrel
   have HB := Lib.hid hb
   by_cases hlt : k < n
   ·obtain ⟨x, b1, off1, hx, rfl, hb1, p1⟩ := (HS.out.1.below hb).at_ k (by rw [← HN.out.1]; exact hlt)
    obtain ⟨y, b2, off2, hy, rfl, hb2, p2⟩ := (HS.out.2.below hb).at_ k (by rw [← HN.out.2]; exact hlt)
    have HD := Box.mk (And.intro (drop_at hx) (drop_at hy))
    have hlt2 : (k : Int) < (n : Int) := by omega
    clear hb hx hy
    obtain ⟨q, E⟩ : ∃ z, Box ((x.toList == y.toList) = z) := ⟨_, ⟨rfl⟩⟩
    cases q
    ·have hq := E.out
     have hq2 : (x.toList != y.toList) = true := by rw [bne, hq]; rfl
     go_wp2_with fail
     first | go_region | skip
     all_goals
      go_wp2_with fail
      go_ret
      exact ⟨ret_bool (by rw [← HA.out, HD.out.1, HD.out.2, sameB, E.out]; rfl), by first | exact HB.out | exact bdrew HB.out 1⟩
    ·have hq := E.out
     have hq2 : (x.toList != y.toList) = false := by rw [bne, hq]; rfl
     go_wp2_with fail
     first | go_region | skip
     all_goals
      go_wp2_with fail
      go_roundw
      case rel => exact ⟨k + 1, by omega, by go_num, by first | exact HB.out | exact bdrew HB.out 1, ⟨by rw [← HA.out, HD.out.1, HD.out.2, sameB, E.out]; rfl⟩⟩
      case measure => simp [intOf]; omega
   ·have hlt2 : ¬ (k : Int) < (n : Int) := by omega
    clear hb
    go_wp2_with fail
    go_ret
    exact ⟨ret_bool (by rw [← HA.out, List.drop_eq_nil_of_le (by rw [← HN.out.1]; omega), List.drop_eq_nil_of_le (by rw [← HN.out.2]; omega)]; rfl), HB.out⟩
 ·have hne : ((n : Int) != (n' : Int)) = true := by simp; omega
  have E : Box (sameB l l' = false) := ⟨by rw [same_eq]; apply decide_eq_false; intro h; rw [h] at hn; omega⟩
  go_enter Tryd.func70, Tryd.ntmps70
  go_wp2_with fail
  go_ret
  exact ⟨ret_bool E.out.symm, Below.refl _ _⟩
set_option maxHeartbeats 2000000 in
set_option maxRecDepth 100000 in
theorem rmats_any (A1 A2 : Option Addr) (c1 c2 : Nat) (P Q : Nat → Nat → Prop) (a b : List Mat) (w : World) (ha : SeqP w P 3 (.slice A1 a.length c1) a.length (a.flatMap matCells)) (hb : SeqP w Q 3 (.slice A2 b.length c2) b.length (b.flatMap matCells)) :
  Calls Tryd.prog 69 #[.slice A1 a.length c1, .slice A2 b.length c2] w (RetB (.bool (matsB a b)) w) := by
 have l1 := ha.form
 have l2 : a.length ≤ 9223372036854775807 := by obtain ⟨_, _, e, h⟩ := l1; cases e; exact h
 have l3 : b.length ≤ 9223372036854775807 := by obtain ⟨_, _, e, h⟩ := hb.form; cases e; exact h
 clear l1
 have HA := Box.mk ha
 have HB := Box.mk hb
 clear ha hb
 obtain ⟨q, hq⟩ : ∃ q, matsB a b = q := ⟨_, rfl⟩
 have HQ := Box.mk hq
 rw [hq]
 by_cases hn : a.length = b.length
 ·have HN := Box.mk hn
  obtain ⟨m, hm⟩ : ∃ m, a.length = m := ⟨_, rfl⟩
  have hm2 : b.length = m := by omega
  have HM := Box.mk (And.intro hm hm2)
  rw [hm, hm2]
  rw [hm] at HA l2
  rw [hm2] at HB
  clear hn hm hm2 hq l3
  go_enter Tryd.func69, Tryd.ntmps69
  go_wp2_with fail
  go_loopw [5] (fun v wr => ∃ k n : Nat, k ≤ m ∧ v = .int .i64 (k : Nat) ∧ wr = w.drewN n ∧ Box (matsB (a.drop k) (b.drop k) = q)) (fun v _ => m - (intOf v).toNat)
  case atStart => exact ⟨0, 0, by omega, rfl, rfl, HQ⟩
  case round =>
   obtain ⟨k, n, hk, rfl, rfl, HD⟩ := hrel
   by_cases hlt : k < m
   ·obtain ⟨x, hx⟩ : ∃ x, a[k]? = some x := ⟨a[k]'(by have := HM.out; omega), List.getElem?_eq_getElem _⟩
    obtain ⟨y, hy⟩ : ∃ y, b[k]? = some y := ⟨b[k]'(by have := HM.out; omega), List.getElem?_eq_getElem _⟩
    obtain ⟨g1, o1, rfl, x0, x1, x2⟩ := SeqP.mat HA.out k x hx
    obtain ⟨g2, o2, rfl, y0, y1, y2⟩ := SeqP.mat HB.out k y hy
    have HDD : Box (a.drop k = x :: a.drop (k + 1) ∧ b.drop k = y :: b.drop (k + 1)) := ⟨by rw [List.drop_eq_getElem_cons (by have := HM.out; omega), (List.getElem?_eq_some_iff.1 hx).2], by rw [List.drop_eq_getElem_cons (by have := HM.out; omega), (List.getElem?_eq_some_iff.1 hy).2]⟩
    obtain ⟨z, hz⟩ : ∃ z, matB x y = z := ⟨_, rfl⟩
    have HZ := Box.mk hz
    obtain ⟨xa, xb, xc⟩ := x
    obtain ⟨ya, yb, yc⟩ := y
    simp only at x0 x1 x2 y0 y1 y2
    have hlt2 : (k : Int) < (m : Int) := by omega
    have hlt0 : (0 : Int) ≤ (k : Int) := by omega
    have hqq : ∀ W : World, (Op.equalIn 10000 71 (.agg #[.string xa, .int .i64 xb, .string xc]) (.agg #[.string ya, .int .i64 yb, .string yc])).run Tryd.prog W = .ok z W := fun W => by rw [eq_mat, HZ.out]
    clear hx hy hz
    go_upto_region 6 with (fail)
    go_quiet (fail)
    cases z
    ·go_wp2_with fail
     go_ret
     exact ⟨ret_bool (by rw [← HD.out, HDD.out.1, HDD.out.2, matsB, HZ.out]; rfl), bdrew (below_drewN w n) _⟩
    ·go_wp2_with fail
     go_roundw
     case rel => exact ⟨k + 1, n + nq, by omega, by go_num, rfl, ⟨by rw [← HD.out, HDD.out.1, HDD.out.2, matsB, HZ.out]; simp⟩⟩
     case measure => simp [intOf]; omega
   ·have hlt2 : ¬ (k : Int) < (m : Int) := by omega
    go_wp2_with fail
    go_ret
    exact ⟨ret_bool (by rw [← HD.out, List.drop_eq_nil_of_le (by have := HM.out; omega), List.drop_eq_nil_of_le (by have := HM.out; omega)]; rfl), below_drewN w n⟩
 ·have hn2 : ((a.length : Int) != (b.length : Int)) = true := by simp; omega
  have hq2 := matsB_len hn
  have HE : Box (q = false) := ⟨by rw [← hq, hq2]⟩
  clear hn hq hq2
  go_enter Tryd.func69, Tryd.ntmps69
  go_wp2_with fail
  go_ret
  exact ⟨ret_bool HE.out.symm, Below.refl _ _⟩
end
section
open Go.RowKit FracM
theorem FW.agree {g : Nat} {u : Value} {w W : World} (h : FW g u w W) : Agree (fun b _ => b ≠ g ∧ u.ownBlock ≠ some b) w W := ⟨h.size, fun b e o hp hb _ => World.cell?_of_block (a := ⟨b, o, none⟩) (h.block b hb hp.1 hp.2)⟩
theorem zig10 {n : Int} (h : I64 n) : (encI n).length ≤ 10 := uvN_len10 (zig_lt h.1 h.2)
set_option maxHeartbeats 2000000 in
set_option maxRecDepth 100000 in
theorem pints_any (g B : Nat) (xs : List Int) (A : Option Addr) (c : Nat) (l : List Nat) (v : Value) (w : World) (h : WS g B w w v v l) (hx : SeqP w (fun b _ => b ≠ g ∧ v.ownBlock ≠ some b) 1 (.slice A xs.length c) xs.length (xs.map (Value.int .i64 ·))) (hb : ∀ x ∈ xs, I64 x) (hn : xs.length ≤ 100) (hl : l.length ≤ 900000) :
  Calls Tryd.prog 47 #[.pointer (some ⟨g, 0, none⟩), .slice A xs.length c] w (RetWr g B w v (l ++ xs.flatMap encI)) := by
 have H0 := Box.mk h
 have HX := Box.mk hx
 have HB := Box.mk hb
 clear h hx hb
 go_enter Tryd.func47, Tryd.ntmps47
 go_wp2_with fail
 go_loopw [8] (fun z wr => ∃ (k : Nat) (v' : Value) (l' : List Nat), k ≤ xs.length ∧ z = .int .i64 (k : Nat) ∧ l'.length ≤ l.length + 10 * k ∧ Box (l' = l ++ (xs.take k).flatMap encI) ∧ Box (WS g B w wr v v' l')) (fun z _ => xs.length - (intOf z).toNat)
 case atStart => exact ⟨0, v, l, by omega, rfl, by omega, ⟨by simp⟩, H0⟩
 case round =>
  clear H0
  obtain ⟨k, v', l', hk, rfl, hll, HE, HW⟩ := hrel
  by_cases hlt : k < xs.length
  ·have hlt2 : (k : Int) < (xs.length : Int) := by omega
   obtain ⟨x, hx⟩ : ∃ x, xs[k]? = some x := ⟨xs[k], List.getElem?_eq_getElem _⟩
   obtain ⟨b, off, hA, -, h0⟩ := (HX.out.keep HW.out.fw.agree).at1 k (.int .i64 x) (by rw [List.getElem?_map, hx]; rfl)
   subst hA
   have HXB := Box.mk (HB.out x (List.mem_of_getElem? hx))
   have HTK : Box (l' ++ uvN (zig x) = l ++ (xs.take (k + 1)).flatMap encI) := ⟨by rw [HE.out, List.take_add_one, hx]; simp [encI]⟩
   have h10 := zig10 HXB.out
   have HL : Box ((l' ++ uvN (zig x)).length ≤ l.length + 10 * (k + 1)) := ⟨by rw [List.length_append]; unfold encI at h10; omega⟩
   clear hx h10
   go_wp2_with fail
   refine (wint_any g B x l' v' wr HW.out.again HXB.out.1 HXB.out.2 (by omega)).mono ?_
   rintro e w1 ⟨rfl, v2, hw⟩
   have HW2 := Box.mk (HW.out.next hw)
   clear hw
   go_wp2_with fail
   go_roundw
   case rel => exact ⟨k + 1, v2, _, by omega, by go_num, HL.out, HTK, HW2⟩
   case measure => simp [intOf]; omega
  ·have hlt2 : ¬ (k : Int) < (xs.length : Int) := by omega
   have hke : k = xs.length := by omega
   subst hke
   rw [List.take_length] at HE
   go_wp2_with fail
   go_end0
   exact ⟨rfl, v', by rw [← HE.out]; exact HW.out⟩
/-- a row of bytes at an address -/
structure SqB (w : World) (b off : Nat) (l : List Nat) : Prop where
 lt : b < w.heap.size
 at_ : ∀ (k : Nat) (x : Nat), l[k]? = some x → w.cell? ⟨b, off + k, none⟩ = some (.int .u8 (x : Int))
theorem SqB.below {w w' : World} {b off : Nat} {l : List Nat} (h : SqB w b off l) (hb : Below w.heap.size w w') : SqB w' b off l := ⟨Nat.lt_of_lt_of_le h.lt hb.size, fun k x hx => (hb.cell h.lt).trans (h.at_ k x hx)⟩
theorem SqB.keep {w w' : World} {b off : Nat} {l : List Nat} (h : SqB w b off l) (hz : w.heap.size ≤ w'.heap.size) (hb : w'.heap[b]? = w.heap[b]?) : SqB w' b off l := ⟨Nat.lt_of_lt_of_le h.lt hz, fun k x hx => (World.cell?_of_block (a := ⟨b, off + k, none⟩) hb).trans (h.at_ k x hx)⟩
theorem SqB.of_own {w : World} {B : Nat} {v : Value} {l : List Nat} (h : OwnB w B v l) (hl : 0 < l.length) : ∃ g c, v = .slice (some ⟨g, 0, none⟩) l.length c ∧ B ≤ g ∧ SqB w g 0 l := by
 unfold OwnB at h
 rcases h.2 with ⟨_, h0⟩ | ⟨g, cap, cur, rfl, hbg, hg, hnc, hcm, hcs, htake⟩
 ·omega
 ·refine ⟨g, cap, rfl, hbg, ?_, fun k x hx => ?_⟩
  ·rcases Nat.lt_or_ge g w.heap.size with hl | hl
   ·exact hl
   ·rw [Array.getElem?_eq_none hl] at hg; cases hg
  ·have hk : k < l.length := (List.getElem?_eq_some_iff.1 hx).1
   have h1 : (u8L l)[k]? = some (.int .u8 (x : Int)) := by unfold u8L; rw [List.getElem?_map, hx]; rfl
   rw [← htake, List.getElem?_take, if_pos (by omega)] at h1
   simp only [World.cell?, hg, Nat.zero_add]
   simpa using h1
theorem addr_addU (b off j : Nat) : (⟨b, off, none⟩ : Addr).add j = ⟨b, off + j, none⟩ := by
 unfold Addr.add; split
 ·next h => subst h; rfl
 ·simp
def RetSq (l : List Nat) (w : World) (e : Ending) (w' : World) : Prop := ∃ v', e = .returned v' ∧ OwnB w' w.heap.size v' l ∧ Below w.heap.size w w'
set_option maxHeartbeats 1000000 in
set_option maxRecDepth 100000 in
theorem bclone_any (b off n c : Nat) (l : List Nat) (w : World) (hn : n = l.length) (h0 : 0 < n) (h : SqB w b off l) (hm : n ≤ 1000000) :
  Calls Tryd.prog 78 #[.slice (some ⟨b, off, none⟩) n c] w (RetSq l w) := by
 obtain ⟨i0, hi, hz0, hz1, hz2⟩ := info_parts byInfo
 have HL := Box.mk hn
 have H0 := Box.mk h0
 have hnil := fun (W : World) (A : Option Addr) (n c n' c' : Nat) => Lib.run_eql_slice_nil (P := Tryd.prog) W 55 5 A n c n' c' Tryd.underlying55
 have hbs : ∀ W : World, (Instr.buildSlice 55 0 #[]).run Tryd.prog W = .ok (.slice (some ⟨W.heap.size, 0, none⟩) 0 0) (W.alloc (.cells #[] 5)) := fun W => by kernel_rfl
 have HO : Box ((w.alloc (.cells #[] 5)).ownsRow w.heap.size 5 1 (.slice (some ⟨w.heap.size, 0, none⟩) 0 0) 0 []) := ⟨World.ownsRow_made w _ 0 (Nat.le_refl _) (by unfold maxLen; omega) (by simp)⟩
 have HC1 : Box ((u8L l).length = n * 1) := ⟨by rw [u8L_len]; omega⟩
 have HC2 : Box (∀ j u, (u8L l)[j]? = some u → (w.alloc (.cells #[] 5)).cell? ((⟨b, off, none⟩ : Addr).add j) = some u) := ⟨fun j u hu => by
  unfold u8L at hu
  rw [List.getElem?_map] at hu
  obtain ⟨x, hx, rfl⟩ := Option.map_eq_some_iff.1 hu
  rw [addr_addU]
  exact (h.below (bel1 _ _)).at_ j x hx⟩
 clear h hn
 go_enter Tryd.func78, Tryd.ntmps78
 go_wp2_with (at_builtin; refine wpList_append_own_at _ rfl _ _ 55 rfl w.heap.size 5 i0 (.int .u8 0) 1 1 Tryd.underlying55 hi hz0 hz1 hz2 rfl (by decide) (.slice (some ⟨w.heap.size, 0, none⟩) 0 0) 0 [] rfl HO.out ⟨b, off, none⟩ n c (u8L l) rfl HC1.out HC2.out (by intro u hu; unfold u8L at hu; obtain ⟨x, _, rfl⟩ := List.mem_map.1 hu; rfl) (by simp only [maxLen]; omega) (by omega) (by simp) ?_; intro v' w1 hown1 hg1 hn1 hat1)
 go_ret
 have hO : OwnB w1 w.heap.size v' l := by
  unfold OwnB
  have := hown1
  rw [Nat.zero_add, List.nil_append, HL.out] at this
  exact this
 exact ⟨v', rfl, hO, (bel1 _ _).trans (Below.grown (Below.refl _ _) hg1 (by simp) (by simp [Value.ownBlock]))⟩
set_option maxHeartbeats 400000 in
theorem done_any (g B : Nat) (l : List Nat) (v : Value) (w : World) (h : WS g B w w v v l) (h0 : 0 < l.length) (hl : l.length ≤ 1000000) :
  Calls Tryd.prog 50 #[.pointer (some ⟨g, 0, none⟩)] w (RetSq l w) := by
 obtain ⟨b, c, rfl, -, hs⟩ := SqB.of_own h.own h0
 have g0 := h.G.c1
 have HS := Box.mk hs
 clear h hs
 go_enter Tryd.func50, Tryd.ntmps50
 go_wp2_with fail
 refine (bclone_any b 0 l.length c l _ rfl h0 HS.out hl).mono ?_
 rintro e w1 ⟨v', rfl, hO, hbel⟩
 go_wp2_with fail
 go_ret
 exact ⟨v', rfl, hO, hbel⟩
end
section
open Go.RowKit FracM
def optR {α : Type} (r : Rst → Option (α × Rst)) : Nat → Rst → Option (List α × Rst)
 | 0, s => some ([], s)
 | n + 1, s => match r s with
  | none => none
  | some (d, s1) => match optR r n s1 with
   | none => none
   | some (l, s2) => some (d :: l, s2)
theorem optR_succ {α : Type} (r : Rst → Option (α × Rst)) (n : Nat) (s : Rst) : optR r (n + 1) s = match r s with
  | none => none
  | some (d, s1) => match optR r n s1 with
   | none => none
   | some (l, s2) => some (d :: l, s2) := rfl
theorem optR_step {α : Type} {r : Rst → Option (α × Rst)} {n : Nat} {s s1 s2 : Rst} {d : α} {l : List α} (h1 : r s = some (d, s1)) (h2 : optR r n s1 = some (l, s2)) : optR r (n + 1) s = some (d :: l, s2) := by
 rw [optR_succ, h1]; simp only; rw [h2]
def rdPl (n : Nat) (s : Rst) : Option (List Nd × Rst) := optR rdNd n s
/-- Decode, as the program does it -/
def decM (b : List Nat) : List Nd × Int :=
 if (rdI (some b)).1 < 0 ∨ 200 < (rdI (some b)).1 then ([], 2) else
 match rdPl (rdI (some b)).1.toNat (rdI (some b)).2 with
 | none => ([], 2)
 | some (p, s) => if s = some [] ∧ (treeM p).2 = 0 then (p, 0) else ([], 2)
/-- Encode -/
def encM (p : List Nd) : List Nat × Int := if (treeM p).2 = 0 then (encPl p, 0) else ([], (treeM p).2)
theorem chk1_len {d : Nd} {n : Nat} (h : chk1 d n = 0) : d.ms.length ≤ 8 ∧ d.bys.length ≤ 8 := by
 unfold chk1 at h
 split at h
 ·cases h
 split at h
 ·cases h
 split at h
 ·cases h
 ·omega
theorem plan_small {p : List Nd} (h : (treeM p).2 = 0) : p.length ≤ 200 ∧ ∀ d ∈ p, d.ms.length ≤ 8 ∧ d.bys.length ≤ 8 := by
 constructor
 ·rcases Nat.lt_or_ge 200 p.length with hb | hb
  ·unfold treeM at h; rw [if_pos hb] at h; cases h
  ·exact hb
 ·intro d hd
  obtain ⟨h1, h2⟩ := tree_back (t := (treeM p).1) (by rw [← h])
  rw [← h1] at hd
  obtain ⟨n, hn⟩ := post_chk1 _ (validE_chk h2) d hd
  exact chk1_len hn
theorem opt_fwd {α : Type} {r : Rst → Option (α × Rst)} {e : α → List Nat} : ∀ (p : List α), (∀ x ∈ p, ∀ q, r (some (e x ++ q)) = some (x, some q)) → ∀ q, optR r p.length (some (p.flatMap e ++ q)) = some (p, some q) := by
 intro p
 induction p with
 | nil => intro _ q; rfl
 | cons d t ih =>
  intro h q
  rw [List.length_cons, List.flatMap_cons, List.append_assoc]
  exact optR_step (h d (by simp) _) (ih (fun e he => h e (by simp [he])) q)
theorem rdPl_fwd (p : List Nd) (h1 : ∀ d ∈ p, GoodNd d) (h2 : ∀ d ∈ p, d.ms.length ≤ 8 ∧ d.bys.length ≤ 8) (q : List Nat) : rdPl p.length (some (p.flatMap encNd ++ q)) = some (p, some q) :=
 opt_fwd p (fun d hd q => rdNd_fwd (h1 d hd) (h2 d hd).1 (h2 d hd).2 q) q
/-- Decode undoes Encode -/
theorem dec_enc {p : List Nd} (h : (treeM p).2 = 0) (g : ∀ d ∈ p, GoodNd d) : decM (encPl p) = (p, 0) := by
 obtain ⟨h1, h2⟩ := plan_small h
 unfold decM encPl
 rw [int_ok.fwd _ (nat64 (by omega))]
 simp only [Int.toNat_natCast]
 have := rdPl_fwd p g h2 []
 rw [List.append_nil] at this
 rw [if_neg (by omega), this]
 simp only
 rw [if_pos ⟨trivial, h⟩]
/-- equal encodings, equal plans -/
theorem enc_inj {p q : List Nd} (hp : (treeM p).2 = 0) (hq : (treeM q).2 = 0) (gp : ∀ d ∈ p, GoodNd d) (gq : ∀ d ∈ q, GoodNd d) : encPl p = encPl q ↔ p = q := by
 constructor
 ·intro h
  have h1 := dec_enc hp gp
  rw [h, dec_enc hq gq] at h1
  simp only [Prod.mk.injEq, and_true] at h1
  exact h1.symm
 ·rintro rfl; rfl
theorem post_inj {t u : Tree} (ht : validE t = 0) (hu : validE u = 0) : postT t = postT u ↔ t = u := by
 constructor
 ·intro h
  have h1 := tree_post ht
  rw [h, tree_post hu] at h1
  simp only [Prod.mk.injEq, and_true] at h1
  exact h1.symm
 ·rintro rfl; rfl
end
end Go.Proofs.YtipafbppaaflcaaDoor
