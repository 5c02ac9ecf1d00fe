/- Contracts, packed: Ke Kg. -/
import Derived.Test.YtkdojgkiclndfaaGreatDoorPx3
import Derived.Test.YtkdojgkiclndfaaGreatDoorPx5
import Derived.Test.YtkdojgkiclndfaaGreatDoorPx6
set_option linter.unusedVariables false
set_option linter.unusedSimpArgs false
namespace Go.Proofs.YtkdojgkiclndfaaGreatDoor
section
open Go.RowKit
theorem tw_at (f : UInt8 → Bool) : ∀ (l : List UInt8) (j : Nat), j < (l.takeWhile f).length → ∃ c, l[j]? = some c ∧ f c = true ∧ (l.takeWhile f).drop j = c :: (l.takeWhile f).drop (j + 1)
 | [], j, h => by simp at h
 | x :: r, j, h => by
  rw [List.takeWhile_cons] at h ⊢
  cases hf : f x
  ·rw [hf] at h; simp at h
  ·rw [hf] at h
   simp only [if_true, List.length_cons] at h ⊢
   cases j with
   | zero => exact ⟨x, rfl, hf, by simp⟩
   | succ j =>
    obtain ⟨c, h1, h2, h3⟩ := tw_at f r j (by omega)
    exact ⟨c, by simpa using h1, h2, by simpa using h3⟩
theorem twN_at {f : UInt8 → Bool} {s : ByteArray} {i k : Nat} (h1 : i ≤ k) (h2 : k < i + twN f s i) (hk : k < s.size) : f s[k] = true ∧ ((s.data.toList.drop i).takeWhile f).drop (k - i) = s[k] :: ((s.data.toList.drop i).takeWhile f).drop (k + 1 - i) := by
 obtain ⟨c, h3, h4, h5⟩ := tw_at f (s.data.toList.drop i) (k - i) (by unfold twN at h2; omega)
 rw [List.getElem?_drop, show i + (k - i) = k by omega] at h3
 have h6 : s.data.toList[k]? = some s[k] := by
  rw [List.getElem?_eq_getElem (by rw [data_size]; exact hk)]; rfl
 rw [h6] at h3
 cases h3
 exact ⟨h4, by rw [h5, show k - i + 1 = k + 1 - i by omega]⟩
theorem numV_big {n : Int} (h : 1073741824 < n) : ∀ l, numV n l = n
 | [] => rfl
 | c :: r => by rw [numV, if_neg (by omega)]
set_option maxHeartbeats 1000000 in
theorem knumber_any (q i : Nat) (s : ByteArray) (w : World) (h : Src w q s i 0) (hi : i ≤ s.size) (hs : s.size ≤ 4000) :
  Calls Tryz.prog 107 #[.pointer (some ⟨q, 0, none⟩)] w (RetK q s i (tokN i (s.data.toList.drop i)) w) := by
 obtain ⟨en, HE⟩ : ∃ en, Box (i + twN digB s i = en) := ⟨_, ⟨rfl⟩⟩
 have hen : i ≤ en ∧ en ≤ s.size := by have := twN_le (f := digB) hi; have := HE.out; omega
 have hen1 := hen.1
 have hen2 := hen.2
 have HT : Box (s.extract i en = bsL ((s.data.toList.drop i).takeWhile digB)) := ⟨by rw [← HE.out]; exact ext_tw _ _ _⟩
 obtain ⟨V, HV⟩ : ∃ V, Box (numV 0 ((s.data.toList.drop i).takeWhile digB) = V) := ⟨_, ⟨rfl⟩⟩
 have HR : Box (tokN i (s.data.toList.drop i) = (if 1073741824 < V then 5 else 0, ⟨1, (s.data.toList.drop i).takeWhile digB, V, i⟩, en - i)) := ⟨by
  rw [← HV.out, ← HE.out]; unfold tokN; rw [show (List.takeWhile digB (List.drop i s.data.toList)).length = twN digB s i from rfl, Nat.add_sub_cancel_left]⟩
 have H0 := Box.mk h
 obtain ⟨c0, c1, c2⟩ := h.c3
 have cf := h.frozen
 have hq := h.lt
 have hq2 : ¬ w.heap.size = q := by omega
 have hq3 : ¬ q = w.heap.size := by omega
 clear h
 go_enter Tryz.func107, Tryz.ntmps107
 go_wp2_with fail
 refine (krun_digit q i s i 0 _ (H0.out.alloc _) hi hs).mono ?_
 rintro e w1 ⟨rfl, rfl⟩
 rw [HE.out]
 have HW : Box (Wr q w (w.alloc (.cells zeroTok 126)) ∧ Src (w.alloc (.cells zeroTok 126)) q s i 0 ∧ Blk (w.alloc (.cells zeroTok 126)) w.heap.size 126 zeroTok) := ⟨(Wr.refl q w).alloc _, H0.out.alloc _, Blk.new _ _ _⟩
 go_wp2_with fail
 go_loop [4, 5] (fun v x => ∃ (k : Nat) (n : Int), x = .int .i64 k ∧ v = .int .i64 n ∧ i ≤ k ∧ k ≤ en ∧ 0 ≤ n ∧ n ≤ 99999999999 ∧ Hid (numV n (((s.data.toList.drop i).takeWhile digB).drop (k - i)) = V)) (fun _ x => en - (intOf x).toNat)
 case atStart => exact ⟨i, 0, rfl, rfl, Nat.le_refl _, hen1, by omega, by omega, by show numV 0 (((s.data.toList.drop i).takeWhile digB).drop (i - i)) = V; rw [Nat.sub_self, List.drop_zero]; exact HV.out⟩
 case round =>
  obtain ⟨k, n, rfl, rfl, hk1, hk2, hn1, hn2, HN⟩ := hrel
  by_cases hgo : k < en ∧ n ≤ 1073741824
  ·obtain ⟨hk3, hn3⟩ := hgo
   have hks : k < s.size := by omega
   obtain ⟨hd, hdr⟩ := twN_at (f := digB) (s := s) (i := i) hk1 (by rw [HE.out]; exact hk3) hks
   obtain ⟨d1, d2⟩ := (digB_iff _).1 hd
   have HN2 : Hid (numV (n * 10 + ((s[k].toNat : Int) - 48)) (((s.data.toList.drop i).takeWhile digB).drop (k + 1 - i)) = V) := by
    have := HN.out
    rw [hdr, numV, if_pos hn3] at this
    exact this
   have hk4 : (k : Int) < (en : Int) := by omega
   have hks2 : (k : Int) < (s.size : Int) := by omega
   clear hd hdr
   go_wp2_with fail
   go_round
   case rel => exact ⟨k + 1, _, by go_num, rfl, by omega, by omega, by omega, by omega, HN2.out⟩
   case measure => simp [intOf]; omega
  ·have HVn : Hid (n = V) := by
    have h5 := HN.out
    by_cases hk3 : k < en
    ·rw [numV_big (by omega)] at h5; exact h5
    ·rw [List.drop_eq_nil_of_le (by rw [show ((s.data.toList.drop i).takeWhile digB).length = twN digB s i from rfl]; have := HE.out; omega), numV] at h5; exact h5
   obtain rfl := HVn.out
   have hcase : (k : Int) < (en : Int) ∧ ¬ n ≤ 1073741824 ∨ ¬ (k : Int) < (en : Int) := by omega
   have HR1 : Box (n ≤ 1073741824 ∨ 1073741824 < n) := ⟨by omega⟩
   clear HN HVn hgo
   by_cases hbig : 1073741824 < n
   ·have HE5 : Box ((tokN i (s.data.toList.drop i)).1 = 5 ∧ (tokN i (s.data.toList.drop i)).2.1 = ⟨1, (s.data.toList.drop i).takeWhile digB, n, i⟩) := ⟨by rw [HR.out]; simp only [if_pos hbig, and_self]⟩
    have HW4 : Box (Wr q w ((w.setCell ⟨q, 2, none⟩ (.int .i64 5)).alloc (.cells zeroTok 126)) ∧ Src ((w.setCell ⟨q, 2, none⟩ (.int .i64 5)).alloc (.cells zeroTok 126)) q s i 5 ∧ Blk ((w.setCell ⟨q, 2, none⟩ (.int .i64 5)).alloc (.cells zeroTok 126)) w.heap.size 126 zeroTok) :=
     ⟨((Wr.refl q w).set 2 _).alloc _, Blk.alloc (by have := H0.out.set 2 (.int .i64 5); simpa using this) _, Blk.newAt _ _ (by simp [World.setCell])⟩
    rcases hcase with ⟨hc1, hc2⟩ | hc1
    all_goals
     go_upto_region 9 with (fail)
     generalize (w.setCell ⟨q, 2, none⟩ (.int .i64 5)).alloc (.cells zeroTok 126) = W at *
     clear c0 c1 c2 cf
     obtain ⟨c0, c1, c2⟩ := HW4.out.2.1.c3
     obtain ⟨t0, t1, t2, t3⟩ := HW4.out.2.2.c4
     have tf := HW4.out.2.2.frozen
     go_region
     go_wp2_with fail
     clear c0 c1 c2 t0 t1 t2 t3 tf
     have HF := Box.mk (tok_fin (k := 1) (t := s.extract i en) (n := n) (o := i) HW4.out.1 HW4.out.2.1 HW4.out.2.2 hq)
     clear HW4
     show bodyPost _ _ _ _ _ (putT W w.heap.size 1 (s.extract i en) n i).drew
     generalize (putT W w.heap.size 1 (s.extract i en) n i).drew = WF at HF ⊢
     obtain ⟨t0, t1, t2, t3⟩ := HF.out.1.c4
     have tf := HF.out.1.frozen
     exact bodyPost_ret (v := .agg #[.int .i64 1, .string (s.extract i en), .int .i64 n, .int .i64 i]) (by simp [results, Tryz.results107, go_sem, t0, t1, t2, t3, tf]) rfl ⟨by rw [HE5.out.2, HT.out], by rw [HE5.out.1]; exact HF.out.2.2, HF.out.2.1⟩
   ·have HE5 : Box ((tokN i (s.data.toList.drop i)).1 = 0 ∧ (tokN i (s.data.toList.drop i)).2.1 = ⟨1, (s.data.toList.drop i).takeWhile digB, n, i⟩) := ⟨by rw [HR.out]; simp only [if_neg hbig, and_self]⟩
    rcases hcase with ⟨hc1, hc2⟩ | hc1
    ·exact absurd hc2 (by omega)
    go_upto_region 9 with (fail)
    generalize w.alloc (.cells zeroTok 126) = W at *
    clear c0 c1 c2 cf
    obtain ⟨c0, c1, c2⟩ := HW.out.2.1.c3
    obtain ⟨t0, t1, t2, t3⟩ := HW.out.2.2.c4
    have tf := HW.out.2.2.frozen
    go_region
    go_wp2_with fail
    clear c0 c1 c2 t0 t1 t2 t3 tf
    have HF := Box.mk (tok_fin (k := 1) (t := s.extract i en) (n := n) (o := i) HW.out.1 HW.out.2.1 HW.out.2.2 hq)
    clear HW
    show bodyPost _ _ _ _ _ (putT W w.heap.size 1 (s.extract i en) n i).drew
    generalize (putT W w.heap.size 1 (s.extract i en) n i).drew = WF at HF ⊢
    obtain ⟨t0, t1, t2, t3⟩ := HF.out.1.c4
    have tf := HF.out.1.frozen
    exact bodyPost_ret (v := .agg #[.int .i64 1, .string (s.extract i en), .int .i64 n, .int .i64 i]) (by simp [results, Tryz.results107, go_sem, t0, t1, t2, t3, tf]) rfl ⟨by rw [HE5.out.2, HT.out], by rw [HE5.out.1]; exact HF.out.2.2, HF.out.2.1⟩
end
section
open Go.RowKit FracM
abbrev Res (α : Type) := Except (Int × Int) (α × List Tok)
/-- the bytes of the words of the grammar -/
abbrev sOpen : List UInt8 := [40]
abbrev sShut : List UInt8 := [41]
abbrev sComma : List UInt8 := [44]
abbrev sCurl : List UInt8 := [123]
abbrev sLruc : List UInt8 := [125]
abbrev sDot : List UInt8 := [46]
abbrev sAt : List UInt8 := [64]
abbrev sBy : List UInt8 := [98, 121]
def groupsT : List (List UInt8) := [[115, 117, 109], [109, 105, 110], [109, 97, 120], [99, 111, 117, 110, 116], [107, 116, 104]]
def funcsT : List (List UInt8) := [[108, 97, 115, 116], [108, 101, 97, 115, 116], [103, 114, 101, 97, 116, 101, 115, 116], [116, 111, 116, 97, 108], [109, 101, 97, 110], [105, 110, 99, 114, 101, 97, 115, 101], [114, 97, 116, 101], [107, 116, 104]]
def matchT : List (List UInt8) := [[61], [33, 61], [94, 61]]
def opersT : List (List UInt8) := [[43], [45], [42], [47]]
/-- where a word stands in a list; -1: nowhere -/
def idxT (l : List (List UInt8)) (x : List UInt8) : Int := match l.findIdx? (fun y => y == x) with | some i => (i : Int) | none => -1
def isT (ts : List Tok) (k : Int) (x : List UInt8) : Bool := match ts with | [] => false | t :: _ => t.kind == k && t.text == x
def kindT (ts : List Tok) (k : Int) : Bool := match ts with | [] => false | t :: _ => t.kind == k
def failAt (ts : List Tok) (en : Int) : Int := match ts with | [] => en | t :: _ => (t.off : Int)
def bad {α : Type} (en : Int) (ts : List Tok) (e : Int) : Res α := .error (failAt ts en, e)
def andR {α β : Type} (r : Res α) (f : α → List Tok → Res β) : Res β := match r with | .error e => .error e | .ok (a, ts) => f a ts
def headT (ts : List Tok) : Tok := match ts with | [] => ⟨0, [], 0, 0⟩ | t :: _ => t
def symbolM (en : Int) (x : List UInt8) (ts : List Tok) : Res Unit := if isT ts 3 x then .ok ((), ts.tail) else bad en ts 2
def numberM (en lo hi : Int) (ts : List Tok) : Res Int :=
 if kindT ts 1 then (if (headT ts).n < lo ∨ hi < (headT ts).n then bad en ts 5 else .ok ((headT ts).n, ts.tail)) else bad en ts 2
/-- the by clause -/
def byM (en : Int) (before : List ByteArray) (ts : List Tok) : Res ByteArray :=
 if kindT ts 0 then
  if 8 ≤ before.length then bad en ts 4
  else if (match before.getLast? with | none => false | some p => leS (bsL (headT ts).text) p) then bad en ts 8
  else .ok (bsL (headT ts).text, ts.tail)
 else bad en ts 2
def bysM : Nat → Int → List ByteArray → List Tok → Res (List ByteArray)
 | 0, en, _, ts => bad en ts 2
 | n + 1, en, before, ts => andR (byM en before ts) fun x ts' => if isT ts' 3 sComma then bysM n en (before ++ [x]) ts'.tail else .ok (before ++ [x], ts')
def gKM (en fn : Int) (ts : List Tok) : Res Int :=
 if fn = 4 then andR (symbolM en sOpen ts) fun _ ts1 => andR (numberM en 1 4096 ts1) fun k ts2 => andR (symbolM en sShut ts2) fun _ ts3 => .ok (k, ts3) else .ok (0, ts)
def gByM (en : Int) (ts : List Tok) : Res (List ByteArray) :=
 if isT ts 0 sBy then
  andR (symbolM en sOpen ts.tail) fun _ ts1 =>
   if isT ts1 3 sShut then .ok ([], ts1.tail)
   else andR (bysM (ts1.length + 1) en [] ts1) fun l ts2 => andR (symbolM en sShut ts2) fun _ ts3 => .ok (l, ts3)
 else .ok ([], ts)
def gKidM (en : Int) (ex : List Tok → Res Tree) (ts : List Tok) : Res Tree :=
 andR (symbolM en sOpen ts) fun _ ts1 => andR (ex ts1) fun t ts2 => andR (symbolM en sShut ts2) fun _ ts3 => .ok (t, ts3)
def groupM (en : Int) (ex : List Tok → Res Tree) (fn : Int) (ts : List Tok) : Res Tree :=
 andR (gKM en fn ts) fun k ts1 => andR (gByM en ts1) fun l ts2 => andR (gKidM en ex ts2) fun t ts3 => .ok (.node ⟨2, fn, 0, 0, k, 0, 0, ⟨#[]⟩, [], l⟩ [t], ts3)
/-- a selection -/
def matchM (en : Int) (before : Nat) (ts : List Tok) : Res Mat :=
 if kindT ts 0 then
  if 8 ≤ before then bad en ts 4
  else if kindT ts.tail 3 ∧ 0 ≤ idxT matchT (headT ts.tail).text then
   (if kindT ts.tail.tail 2 then .ok ((bsL (headT ts).text, idxT matchT (headT ts.tail).text, bsL (headT ts.tail.tail).text), ts.tail.tail.tail) else bad en ts.tail.tail 2)
  else bad en ts.tail 2
 else bad en ts 2
def matchsM : Nat → Int → List Mat → List Tok → Res (List Mat)
 | 0, en, _, ts => bad en ts 2
 | n + 1, en, before, ts => andR (matchM en before.length ts) fun x ts' => if isT ts' 3 sComma then matchsM n en (before ++ [x]) ts'.tail else .ok (before ++ [x], ts')
def sMatM (en : Int) (ts : List Tok) : Res (List Mat) :=
 if isT ts 3 sCurl then
  (if isT ts.tail 3 sLruc then .ok ([], ts.tail.tail) else andR (matchsM (ts.tail.length + 1) en [] ts.tail) fun l ts2 => andR (symbolM en sLruc ts2) fun _ ts3 => .ok (l, ts3))
 else .ok ([], ts)
/-- the function: its number, the window, the rank -/
def funM (en : Int) (ts : List Tok) : Res (Int × Int × Int) :=
 if kindT ts 0 ∧ 0 ≤ idxT funcsT (headT ts).text then
  if idxT funcsT (headT ts).text = 0 then .ok ((0, 0, 0), ts.tail)
  else andR (symbolM en sOpen ts.tail) fun _ ts1 => andR (numberM en 1 4096 ts1) fun w ts2 =>
   andR (if idxT funcsT (headT ts).text = 7 then andR (symbolM en sComma ts2) fun _ ts3 => numberM en 1 w ts3 else .ok (0, ts2)) fun k ts4 =>
    andR (symbolM en sShut ts4) fun _ ts5 => .ok ((idxT funcsT (headT ts).text, w, k), ts5)
 else bad en ts 2
def sFunM (en : Int) (ts : List Tok) : Res (Int × Int × Int) := if isT ts 3 sDot then funM en ts.tail else .ok ((0, 0, 0), ts)
def sOffM (en : Int) (ts : List Tok) : Res Int := if isT ts 3 sAt then numberM en 0 4096 ts.tail else .ok (0, ts)
def selectM (en : Int) (name : List UInt8) (ts : List Tok) : Res Tree :=
 andR (sMatM en ts) fun l ts1 => andR (sFunM en ts1) fun f ts2 => andR (sOffM en ts2) fun o ts3 => .ok (.node ⟨1, f.1, f.2.1, o, f.2.2, 0, 0, bsL name, l, []⟩ [], ts3)
/-- operations -/
def opAt (k : Nat) : List UInt8 := opersT.getD k []
def opFn (first : Nat) (ts : List Tok) : Nat := if isT ts 3 (opAt first) then first else first + 1
def binT (fn : Nat) (a b : Tree) : Tree := .node ⟨3, (fn : Int), 0, 0, 0, 0, 0, ⟨#[]⟩, [], []⟩ [a, b]
def opLoop (operand : List Tok → Res Tree) (first : Nat) : Nat → Tree → List Tok → Res Tree
 | 0, left, ts => .ok (left, ts)
 | n + 1, left, ts =>
  if isT ts 3 (opAt (opFn first ts)) then andR (operand ts.tail) fun right ts' => opLoop operand first n (binT (opFn first ts) left right) ts'
  else .ok (left, ts)
def operM (operand : List Tok → Res Tree) (first : Nat) (ts : List Tok) : Res Tree := andR (operand ts) fun left ts' => opLoop operand first (ts'.length + 1) left ts'
def termOf (fac : List Tok → Res Tree) (ts : List Tok) : Res Tree := operM fac 2 ts
def exprOf (fac : List Tok → Res Tree) (ts : List Tok) : Res Tree := operM (termOf fac) 0 ts
def numT (n : Int) : Tree := .node ⟨0, 0, 0, 0, 0, n, 1, ⟨#[]⟩, [], []⟩ []
def facM (en : Int) : Nat → List Tok → Res Tree
 | 0, ts => bad en ts 2
 | n + 1, ts =>
  if kindT ts 1 then .ok (numT (headT ts).n, ts.tail)
  else if isT ts 3 sOpen then andR (exprOf (facM en n) ts.tail) fun t ts1 => andR (symbolM en sShut ts1) fun _ ts2 => .ok (t, ts2)
  else if kindT ts 0 then
   (if 0 ≤ idxT groupsT (headT ts).text then groupM en (exprOf (facM en n)) (idxT groupsT (headT ts).text) ts.tail else selectM en (headT ts).text ts.tail)
  else bad en ts 2
def zeroT : Tree := .node ⟨0, 0, 0, 0, 0, 0, 0, ⟨#[]⟩, [], []⟩ []
/-- the parse of a text: the tree, the offset, the error -/
def parseT (s : List UInt8) : Tree × Int × Int :=
 if 2000 < s.length then (zeroT, 2000, 4)
 else if (lexM s.length 0 s).2.1 = 0 then
  match exprOf (facM s.length (s.length + 1)) (lexM s.length 0 s).1 with
  | .error f => (zeroT, f.1, f.2)
  | .ok (t, []) => if fitB t then (t, 0, 0) else (zeroT, s.length, 4)
  | .ok (t, x :: _) => (zeroT, x.off, 2)
 else (zeroT, (lexM s.length 0 s).2.2, (lexM s.length 0 s).2.1)
end
end Go.Proofs.YtkdojgkiclndfaaGreatDoor
