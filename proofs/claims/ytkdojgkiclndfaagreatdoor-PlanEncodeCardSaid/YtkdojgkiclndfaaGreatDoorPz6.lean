/- Contracts, packed: Qa Ke. -/
import Derived.Test.YtkdojgkiclndfaaGreatDoorPz1
import Derived.Test.YtkdojgkiclndfaaGreatDoorPz3
import Derived.Test.YtkdojgkiclndfaaGreatDoorPz5
set_option linter.unusedVariables false
set_option linter.unusedSimpArgs false
namespace Go.Proofs.YtkdojgkiclndfaaGreatDoor
section
open Go.RowKit FracM
/-- a node without its kids -/
structure Nd where
 kind : Int
 fn : Int
 win : Int
 off : Int
 k : Int
 num : Int
 den : Int
 name : ByteArray
 ms : List Mat
 bys : List ByteArray
inductive Tree where
 | node (d : Nd) (ks : List Tree)
def Tree.d : Tree → Nd
 | .node d _ => d
theorem Tree.ind {M : Tree → Prop} (h : ∀ d ks, (∀ t ∈ ks, M t) → M (.node d ks)) : ∀ t, M t
 | .node d ks => h d ks (fun t _ => Tree.ind h t)
mutual
def cnt : Tree → Int → Int → Int
 | .node _ ks, dp, l => cntL ks (dp + 1) (if 12 < dp then -1 else l - 1)
def cntL : List Tree → Int → Int → Int
 | [], _, l => l
 | t :: ts, dp, l => if l < 0 then l else cntL ts dp (cnt t dp l)
end
mutual
def dep : Tree → Nat
 | .node _ ks => depL ks + 1
def depL : List Tree → Nat
 | [] => 0
 | t :: ts => max (dep t) (depL ts)
end
mutual
def nds : Tree → Nat
 | .node _ ks => ndsL ks + 1
def ndsL : List Tree → Nat
 | [] => 0
 | t :: ts => nds t + ndsL ts
end
theorem cntL_neg (ts : List Tree) (dp l : Int) (h : l < 0) : cntL ts dp l = l := by
 cases ts with
 | nil => rw [cntL]
 | cons t ts => rw [cntL, if_pos h]
def CntOk (t : Tree) : Prop := ∀ (dp l : Int), 0 ≤ l → ((nds t : Int) ≤ l ∧ dp + dep t ≤ 13 → cnt t dp l = l - nds t) ∧ (¬ ((nds t : Int) ≤ l ∧ dp + dep t ≤ 13) → cnt t dp l < 0)
theorem cntL_ok (ts : List Tree) (H : ∀ t ∈ ts, CntOk t) : ∀ (dp l : Int), 0 ≤ l → dp ≤ 13 → ((ndsL ts : Int) ≤ l ∧ dp + depL ts ≤ 13 → cntL ts dp l = l - ndsL ts) ∧ (¬ ((ndsL ts : Int) ≤ l ∧ dp + depL ts ≤ 13) → cntL ts dp l < 0) := by
 induction ts with
 | nil => intro dp l h0 h1; rw [cntL, ndsL, depL]; constructor <;> intro h <;> omega
 | cons t ts ih =>
  intro dp l h0 h1
  rw [cntL, if_neg (by omega), ndsL, depL]
  obtain ⟨h2, h3⟩ := H t (by simp) dp l h0
  have ih' := ih (fun x hx => H x (by simp [hx])) dp
  by_cases hc : (nds t : Int) ≤ l ∧ dp + dep t ≤ 13
  ·rw [h2 hc]
   obtain ⟨i1, i2⟩ := ih' (l - nds t) (by omega) h1
   constructor
   ·intro h; rw [i1 (by omega)]; omega
   ·intro h; exact i2 (by omega)
  ·have := h3 hc
   rw [cntL_neg _ _ _ this]
   constructor
   ·intro h; omega
   ·intro h; exact this
theorem cnt_ok : ∀ t, CntOk t := Tree.ind fun d ks ih dp l h0 => by
 rw [cnt, nds, dep]
 by_cases h : 12 < dp
 ·rw [if_pos h, cntL_neg _ _ _ (by omega)]
  constructor <;> intro h <;> omega
 ·rw [if_neg h]
  by_cases hl : l = 0
  ·subst hl
   rw [cntL_neg _ _ _ (by omega)]
   constructor <;> intro h <;> omega
  ·obtain ⟨h1, h2⟩ := cntL_ok ks ih (dp + 1) (l - 1) (by omega) (by omega)
   constructor
   ·intro h; rw [h1 (by omega)]; omega
   ·intro h; exact h2 (by omega)
def fitB (t : Tree) : Bool := decide (nds t ≤ 200) && decide (dep t ≤ 12)
theorem fit_eq (t : Tree) : decide (0 ≤ cnt t 1 200) = fitB t := by
 obtain ⟨h1, h2⟩ := cnt_ok t 1 200 (by omega)
 unfold fitB
 by_cases h : (nds t : Int) ≤ 200 ∧ (1 : Int) + dep t ≤ 13
 ·have := h1 h
  rw [decide_eq_true (show 0 ≤ cnt t 1 200 by omega), decide_eq_true (show nds t ≤ 200 by omega), decide_eq_true (show dep t ≤ 12 by omega)]; rfl
 ·have := h2 h
  rw [decide_eq_false (show ¬ 0 ≤ cnt t 1 200 by omega)]
  by_cases h3 : nds t ≤ 200
  ·rw [decide_eq_false (show ¬ dep t ≤ 12 by omega)]; simp
  ·rw [decide_eq_false h3]; simp
/-- the words of the groups -/
def groupsL : List ByteArray := [⟨#[115, 117, 109]⟩, ⟨#[109, 105, 110]⟩, ⟨#[109, 97, 120]⟩, ⟨#[99, 111, 117, 110, 116]⟩, ⟨#[107, 116, 104]⟩]
def inGroups (s : ByteArray) : Bool := groupsL.any fun x => x.toList == s.toList
def noSelB (d : Nd) : Bool := d.win == 0 && d.off == 0 && d.name.toList.isEmpty && d.ms.isEmpty
def noNumB (d : Nd) : Bool := d.num == 0 && d.den == 0
def shapedB (d : Nd) (n : Nat) : Bool :=
 if d.kind = 0 then d.fn == 0 && n == 0 && noSelB d && d.k == 0 && d.bys.isEmpty && validB d.num d.den
 else if d.kind = 1 then decide (0 ≤ d.fn) && decide (d.fn ≤ 7) && n == 0 && noNumB d && d.bys.isEmpty
 else if d.kind = 2 then decide (0 ≤ d.fn) && decide (d.fn ≤ 4) && n == 1 && noNumB d && noSelB d
 else if d.kind = 3 then decide (0 ≤ d.fn) && decide (d.fn ≤ 3) && n == 2 && noNumB d && noSelB d && d.k == 0 && d.bys.isEmpty
 else false
def rangedB (d : Nd) : Bool :=
 if d.kind = 1 then
  decide (0 ≤ d.off) && decide (d.off ≤ 4096) && (if d.fn = 0 then d.win == 0 && d.k == 0 else decide (1 ≤ d.win) && decide (d.win ≤ 4096) && (if d.fn = 7 then decide (1 ≤ d.k) && decide (d.k ≤ d.win) else d.k == 0))
 else if d.kind = 2 then (if d.fn = 4 then decide (1 ≤ d.k) && decide (d.k ≤ 4096) else d.k == 0)
 else true
/-- the order of strings, as the program compares them -/
def leS (a b : ByteArray) : Bool := Op.bytesLess a.toList b.toList || (a.toList == b.toList)
/-- the names of a by clause, behind a name -/
def bysFrom (prev : Option ByteArray) : List ByteArray → Bool
 | [] => true
 | x :: xs => nameB x && !(match prev with | none => false | some p => leS x p) && bysFrom (some x) xs
def bysB (l : List ByteArray) : Bool := bysFrom none l
def namedB (d : Nd) : Bool := (!(d.kind == 1) || (nameB d.name && !inGroups d.name)) && d.ms.all vmatB && bysB d.bys
def chk1 (d : Nd) (n : Nat) : Int :=
 if shapedB d n = false then 1 else if namedB d = false then 8 else if 8 < d.ms.length ∨ 8 < d.bys.length then 4 else if rangedB d = false then 5 else 0
mutual
def chk : Tree → Int
 | .node d ks => if chk1 d ks.length = 0 then chkL ks else chk1 d ks.length
def chkL : List Tree → Int
 | [] => 0
 | t :: ts => if chk t = 0 then chkL ts else chk t
end
theorem chkL_ok {ts : List Tree} (h : chkL ts = 0) : ∀ t ∈ ts, chk t = 0 := by
 induction ts with
 | nil => intro t ht; cases ht
 | cons x ts ih =>
  intro t ht
  rw [chkL] at h
  by_cases hx : chk x = 0
  ·rw [if_pos hx] at h
   rcases List.mem_cons.1 ht with rfl | ht
   ·exact hx
   ·exact ih h t ht
  ·rw [if_neg hx] at h; exact absurd h hx
theorem chk_ok {d : Nd} {ks : List Tree} (h : chk (.node d ks) = 0) : chk1 d ks.length = 0 ∧ ∀ t ∈ ks, chk t = 0 := by
 rw [chk] at h
 by_cases hx : chk1 d ks.length = 0
 ·rw [if_pos hx] at h; exact ⟨hx, chkL_ok h⟩
 ·rw [if_neg hx] at h; exact absurd h hx
theorem shape_cases {d : Nd} {n : Nat} (h : shapedB d n = true) : (d.kind = 0 ∧ n = 0) ∨ (d.kind = 1 ∧ n = 0 ∧ 0 ≤ d.fn ∧ d.fn ≤ 7) ∨ (d.kind = 2 ∧ n = 1 ∧ 0 ≤ d.fn ∧ d.fn ≤ 4) ∨ (d.kind = 3 ∧ n = 2 ∧ 0 ≤ d.fn ∧ d.fn ≤ 3) := by
 unfold shapedB at h
 by_cases h0 : d.kind = 0
 ·rw [if_pos h0] at h; simp at h; exact .inl ⟨h0, by omega⟩
 rw [if_neg h0] at h
 by_cases h1 : d.kind = 1
 ·rw [if_pos h1] at h; simp at h; exact .inr (.inl ⟨h1, by omega, by omega, by omega⟩)
 rw [if_neg h1] at h
 by_cases h2 : d.kind = 2
 ·rw [if_pos h2] at h; simp at h; exact .inr (.inr (.inl ⟨h2, by omega, by omega, by omega⟩))
 rw [if_neg h2] at h
 by_cases h3 : d.kind = 3
 ·rw [if_pos h3] at h; simp at h; exact .inr (.inr (.inr ⟨h3, by omega, by omega, by omega⟩))
 rw [if_neg h3] at h; cases h
def validE (t : Tree) : Int := if fitB t = false then 4 else chk t
abbrev U3 := Int × Int × Int
def u0 : U3 := (0, 0, 0)
end
section
open Go.RowKit
theorem tw_at (f : UInt8 → Bool) : ∀ (l : List UInt8) (j : Nat), j < (l.takeWhile f).length → ∃ c, l[j]? = some c ∧ f c = true ∧ (l.takeWhile f).drop j = c :: (l.takeWhile f).drop (j + 1)
 | [], j, h => by simp at h
 | x :: r, j, h => by
  rw [List.takeWhile_cons] at h ⊢
  cases hf : f x
  ·rw [hf] at h; simp at h
  ·rw [hf] at h
   simp only [if_true, List.length_cons] at h ⊢
   cases j with
   | zero => exact ⟨x, rfl, hf, by simp⟩
   | succ j =>
    obtain ⟨c, h1, h2, h3⟩ := tw_at f r j (by omega)
    exact ⟨c, by simpa using h1, h2, by simpa using h3⟩
theorem twN_at {f : UInt8 → Bool} {s : ByteArray} {i k : Nat} (h1 : i ≤ k) (h2 : k < i + twN f s i) (hk : k < s.size) : f s[k] = true ∧ ((s.data.toList.drop i).takeWhile f).drop (k - i) = s[k] :: ((s.data.toList.drop i).takeWhile f).drop (k + 1 - i) := by
 obtain ⟨c, h3, h4, h5⟩ := tw_at f (s.data.toList.drop i) (k - i) (by unfold twN at h2; omega)
 rw [List.getElem?_drop, show i + (k - i) = k by omega] at h3
 have h6 : s.data.toList[k]? = some s[k] := by
  rw [List.getElem?_eq_getElem (by rw [data_size]; exact hk)]; rfl
 rw [h6] at h3
 cases h3
 exact ⟨h4, by rw [h5, show k - i + 1 = k + 1 - i by omega]⟩
theorem numV_big {n : Int} (h : 1073741824 < n) : ∀ l, numV n l = n
 | [] => rfl
 | c :: r => by rw [numV, if_neg (by omega)]
set_option maxHeartbeats 1000000 in
theorem knumber_any (q i : Nat) (s : ByteArray) (w : World) (h : Src w q s i 0) (hi : i ≤ s.size) (hs : s.size ≤ 4000) :
  Calls Tryz.prog 107 #[.pointer (some ⟨q, 0, none⟩)] w (RetK q s i (tokN i (s.data.toList.drop i)) w) := by
 obtain ⟨en, HE⟩ : ∃ en, Box (i + twN digB s i = en) := ⟨_, ⟨rfl⟩⟩
 have hen : i ≤ en ∧ en ≤ s.size := by have := twN_le (f := digB) hi; have := HE.out; omega
 have hen1 := hen.1
 have hen2 := hen.2
 have HT : Box (s.extract i en = bsL ((s.data.toList.drop i).takeWhile digB)) := ⟨by rw [← HE.out]; exact ext_tw _ _ _⟩
 obtain ⟨V, HV⟩ : ∃ V, Box (numV 0 ((s.data.toList.drop i).takeWhile digB) = V) := ⟨_, ⟨rfl⟩⟩
 have HR : Box (tokN i (s.data.toList.drop i) = (if 1073741824 < V then 5 else 0, ⟨1, (s.data.toList.drop i).takeWhile digB, V, i⟩, en - i)) := ⟨by
  rw [← HV.out, ← HE.out]; unfold tokN; rw [show (List.takeWhile digB (List.drop i s.data.toList)).length = twN digB s i from rfl, Nat.add_sub_cancel_left]⟩
 have H0 := Box.mk h
 obtain ⟨c0, c1, c2⟩ := h.c3
 have cf := h.frozen
 have hq := h.lt
 have hq2 : ¬ w.heap.size = q := by omega
 have hq3 : ¬ q = w.heap.size := by omega
 clear h
 go_enter Tryz.func107, Tryz.ntmps107
 go_wp2_with fail
 refine (krun_digit q i s i 0 _ (H0.out.alloc _) hi hs).mono ?_
 rintro e w1 ⟨rfl, rfl⟩
 rw [HE.out]
 have HW : Box (Wr q w (w.alloc (.cells zeroTok 126)) ∧ Src (w.alloc (.cells zeroTok 126)) q s i 0 ∧ Blk (w.alloc (.cells zeroTok 126)) w.heap.size 126 zeroTok) := ⟨(Wr.refl q w).alloc _, H0.out.alloc _, Blk.new _ _ _⟩
 go_wp2_with fail
 go_loop [4, 5] (fun v x => ∃ (k : Nat) (n : Int), x = .int .i64 k ∧ v = .int .i64 n ∧ i ≤ k ∧ k ≤ en ∧ 0 ≤ n ∧ n ≤ 99999999999 ∧ Hid (numV n (((s.data.toList.drop i).takeWhile digB).drop (k - i)) = V)) (fun _ x => en - (intOf x).toNat)
 case atStart => exact ⟨i, 0, rfl, rfl, Nat.le_refl _, hen1, by omega, by omega, by show numV 0 (((s.data.toList.drop i).takeWhile digB).drop (i - i)) = V; rw [Nat.sub_self, List.drop_zero]; exact HV.out⟩
 case round =>
  obtain ⟨k, n, rfl, rfl, hk1, hk2, hn1, hn2, HN⟩ := hrel
  by_cases hgo : k < en ∧ n ≤ 1073741824
  ·obtain ⟨hk3, hn3⟩ := hgo
   have hks : k < s.size := by omega
   obtain ⟨hd, hdr⟩ := twN_at (f := digB) (s := s) (i := i) hk1 (by rw [HE.out]; exact hk3) hks
   obtain ⟨d1, d2⟩ := (digB_iff _).1 hd
   have HN2 : Hid (numV (n * 10 + ((s[k].toNat : Int) - 48)) (((s.data.toList.drop i).takeWhile digB).drop (k + 1 - i)) = V) := by
    have := HN.out
    rw [hdr, numV, if_pos hn3] at this
    exact this
   have hk4 : (k : Int) < (en : Int) := by omega
   have hks2 : (k : Int) < (s.size : Int) := by omega
   clear hd hdr
   go_wp2_with fail
   go_round
   case rel => exact ⟨k + 1, _, by go_num, rfl, by omega, by omega, by omega, by omega, HN2.out⟩
   case measure => simp [intOf]; omega
  ·have HVn : Hid (n = V) := by
    have h5 := HN.out
    by_cases hk3 : k < en
    ·rw [numV_big (by omega)] at h5; exact h5
    ·rw [List.drop_eq_nil_of_le (by rw [show ((s.data.toList.drop i).takeWhile digB).length = twN digB s i from rfl]; have := HE.out; omega), numV] at h5; exact h5
   obtain rfl := HVn.out
   have hcase : (k : Int) < (en : Int) ∧ ¬ n ≤ 1073741824 ∨ ¬ (k : Int) < (en : Int) := by omega
   have HR1 : Box (n ≤ 1073741824 ∨ 1073741824 < n) := ⟨by omega⟩
   clear HN HVn hgo
   by_cases hbig : 1073741824 < n
   ·have HE5 : Box ((tokN i (s.data.toList.drop i)).1 = 5 ∧ (tokN i (s.data.toList.drop i)).2.1 = ⟨1, (s.data.toList.drop i).takeWhile digB, n, i⟩) := ⟨by rw [HR.out]; simp only [if_pos hbig, and_self]⟩
    have HW4 : Box (Wr q w ((w.setCell ⟨q, 2, none⟩ (.int .i64 5)).alloc (.cells zeroTok 126)) ∧ Src ((w.setCell ⟨q, 2, none⟩ (.int .i64 5)).alloc (.cells zeroTok 126)) q s i 5 ∧ Blk ((w.setCell ⟨q, 2, none⟩ (.int .i64 5)).alloc (.cells zeroTok 126)) w.heap.size 126 zeroTok) :=
     ⟨((Wr.refl q w).set 2 _).alloc _, Blk.alloc (by have := H0.out.set 2 (.int .i64 5); simpa using this) _, Blk.newAt _ _ (by simp [World.setCell])⟩
    rcases hcase with ⟨hc1, hc2⟩ | hc1
    all_goals
     go_upto_region 9 with (fail)
     generalize (w.setCell ⟨q, 2, none⟩ (.int .i64 5)).alloc (.cells zeroTok 126) = W at *
     clear c0 c1 c2 cf
     obtain ⟨c0, c1, c2⟩ := HW4.out.2.1.c3
     obtain ⟨t0, t1, t2, t3⟩ := HW4.out.2.2.c4
     have tf := HW4.out.2.2.frozen
     go_region
     go_wp2_with fail
     clear c0 c1 c2 t0 t1 t2 t3 tf
     have HF := Box.mk (tok_fin (k := 1) (t := s.extract i en) (n := n) (o := i) HW4.out.1 HW4.out.2.1 HW4.out.2.2 hq)
     clear HW4
     show bodyPost _ _ _ _ _ (putT W w.heap.size 1 (s.extract i en) n i).drew
     generalize (putT W w.heap.size 1 (s.extract i en) n i).drew = WF at HF ⊢
     obtain ⟨t0, t1, t2, t3⟩ := HF.out.1.c4
     have tf := HF.out.1.frozen
     exact bodyPost_ret (v := .agg #[.int .i64 1, .string (s.extract i en), .int .i64 n, .int .i64 i]) (by simp [results, Tryz.results107, go_sem, t0, t1, t2, t3, tf]) rfl ⟨by rw [HE5.out.2, HT.out], by rw [HE5.out.1]; exact HF.out.2.2, HF.out.2.1⟩
   ·have HE5 : Box ((tokN i (s.data.toList.drop i)).1 = 0 ∧ (tokN i (s.data.toList.drop i)).2.1 = ⟨1, (s.data.toList.drop i).takeWhile digB, n, i⟩) := ⟨by rw [HR.out]; simp only [if_neg hbig, and_self]⟩
    rcases hcase with ⟨hc1, hc2⟩ | hc1
    ·exact absurd hc2 (by omega)
    go_upto_region 9 with (fail)
    generalize w.alloc (.cells zeroTok 126) = W at *
    clear c0 c1 c2 cf
    obtain ⟨c0, c1, c2⟩ := HW.out.2.1.c3
    obtain ⟨t0, t1, t2, t3⟩ := HW.out.2.2.c4
    have tf := HW.out.2.2.frozen
    go_region
    go_wp2_with fail
    clear c0 c1 c2 t0 t1 t2 t3 tf
    have HF := Box.mk (tok_fin (k := 1) (t := s.extract i en) (n := n) (o := i) HW.out.1 HW.out.2.1 HW.out.2.2 hq)
    clear HW
    show bodyPost _ _ _ _ _ (putT W w.heap.size 1 (s.extract i en) n i).drew
    generalize (putT W w.heap.size 1 (s.extract i en) n i).drew = WF at HF ⊢
    obtain ⟨t0, t1, t2, t3⟩ := HF.out.1.c4
    have tf := HF.out.1.frozen
    exact bodyPost_ret (v := .agg #[.int .i64 1, .string (s.extract i en), .int .i64 n, .int .i64 i]) (by simp [results, Tryz.results107, go_sem, t0, t1, t2, t3, tf]) rfl ⟨by rw [HE5.out.2, HT.out], by rw [HE5.out.1]; exact HF.out.2.2, HF.out.2.1⟩
end
end Go.Proofs.YtkdojgkiclndfaaGreatDoor
