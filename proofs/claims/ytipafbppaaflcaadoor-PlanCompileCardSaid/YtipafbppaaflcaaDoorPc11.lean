/- Contracts, packed: Km Qh Yg. -/
import Derived.Test.YtipafbppaaflcaaDoorPc8
import Derived.Test.YtipafbppaaflcaaDoorPc9
import Derived.IntWalk
import Derived.Maps.AppendAt
import Derived.OwnWalk
import Derived.Laws.OwnMore
set_option linter.unusedVariables false
set_option linter.unusedSimpArgs false
namespace Go.Proofs.YtipafbppaaflcaaDoor
section
open Go.RowKit FracM
theorem andR_ok {α β : Type} {r : Res α} {f : α → List Tok → Res β} {p : β × List Tok} (h : andR r f = .ok p) : ∃ a ts, r = .ok (a, ts) ∧ f a ts = .ok p := by
 unfold andR at h
 cases r with
 | error e => cases h
 | ok q => obtain ⟨a, ts⟩ := q; exact ⟨a, ts, rfl, h⟩
theorem isT_len {ts : List Tok} {k : Int} {x : List UInt8} (h : isT ts k x = true) : ts.tail.length < ts.length := by
 cases ts with
 | nil => simp [isT] at h
 | cons t r => simp
theorem kindT_len {ts : List Tok} {k : Int} (h : kindT ts k = true) : ts.tail.length < ts.length := by
 cases ts with
 | nil => simp [kindT] at h
 | cons t r => simp
theorem tail_len (ts : List Tok) : ts.tail.length ≤ ts.length := by simp
/-- what is left is shorter -/
def Sho {α : Type} (r : Res α) (ts : List Tok) : Prop := ∀ a u, r = .ok (a, u) → u.length < ts.length
def Shl {α : Type} (r : Res α) (ts : List Tok) : Prop := ∀ a u, r = .ok (a, u) → u.length ≤ ts.length
theorem Sho.le {α : Type} {r : Res α} {ts : List Tok} (h : Sho r ts) : Shl r ts := fun a u e => Nat.le_of_lt (h a u e)
theorem Sho_bad {α : Type} {en e : Int} {ts us : List Tok} : Sho (bad en us e : Res α) ts := fun a u h => by unfold Go.Proofs.YtipafbppaaflcaaDoor.bad at h; cases h
theorem Sho.ok {α : Type} {a : α} {u ts : List Tok} (h : u.length < ts.length) : Sho (.ok (a, u)) ts := fun b v e => by cases e; exact h
theorem Shl.ok {α : Type} {a : α} {u ts : List Tok} (h : u.length ≤ ts.length) : Shl (.ok (a, u)) ts := fun b v e => by cases e; exact h
theorem Sho.and {α β : Type} {r : Res α} {f : α → List Tok → Res β} {ts : List Tok} (h : Sho r ts) (k : ∀ a u, r = .ok (a, u) → Shl (f a u) u) : Sho (andR r f) ts := fun b v e => by
 obtain ⟨a, u, h1, h2⟩ := andR_ok e
 exact Nat.lt_of_le_of_lt (k a u h1 _ _ h2) (h _ _ h1)
theorem Shl.andO {α β : Type} {r : Res α} {f : α → List Tok → Res β} {ts : List Tok} (h : Shl r ts) (k : ∀ a u, r = .ok (a, u) → Sho (f a u) u) : Sho (andR r f) ts := fun b v e => by
 obtain ⟨a, u, h1, h2⟩ := andR_ok e
 exact Nat.lt_of_lt_of_le (k a u h1 _ _ h2) (h _ _ h1)
theorem Shl.and {α β : Type} {r : Res α} {f : α → List Tok → Res β} {ts : List Tok} (h : Shl r ts) (k : ∀ a u, r = .ok (a, u) → Shl (f a u) u) : Shl (andR r f) ts := fun b v e => by
 obtain ⟨a, u, h1, h2⟩ := andR_ok e
 exact Nat.le_trans (k a u h1 _ _ h2) (h _ _ h1)
theorem Sho.from {α : Type} {r : Res α} {ts us : List Tok} (h : Sho r ts) (k : ts.length ≤ us.length) : Sho r us := fun a u e => Nat.lt_of_lt_of_le (h a u e) k
theorem Shl.from {α : Type} {r : Res α} {ts us : List Tok} (h : Shl r ts) (k : ts.length ≤ us.length) : Shl r us := fun a u e => Nat.le_trans (h a u e) k
theorem Shl.fromO {α : Type} {r : Res α} {ts us : List Tok} (h : Shl r ts) (k : ts.length < us.length) : Sho r us := fun a u e => Nat.lt_of_le_of_lt (h a u e) k
theorem symbolM_len (en : Int) (x : List UInt8) (ts : List Tok) : Sho (symbolM en x ts) ts := by
 unfold symbolM
 split
 ·next h => exact Sho.ok (isT_len h)
 ·exact Sho_bad
theorem numberM_len (en lo hi : Int) (ts : List Tok) : Sho (numberM en lo hi ts) ts := by
 unfold numberM
 split
 ·next h =>
  split
  ·exact Sho_bad
  ·exact Sho.ok (kindT_len h)
 ·exact Sho_bad
theorem byM_len (en : Int) (l : List ByteArray) (ts : List Tok) : Sho (byM en l ts) ts := by
 unfold byM
 split
 ·next h =>
  split
  ·exact Sho_bad
  ·split
   ·split
    ·exact Sho_bad
    ·exact Sho.ok (kindT_len h)
   ·split
    ·exact Sho_bad
    ·exact Sho.ok (kindT_len h)
 ·exact Sho_bad
theorem bysM_len (n : Nat) : ∀ (en : Int) (l : List ByteArray) (ts : List Tok), Sho (bysM n en l ts) ts := by
 induction n with
 | zero => intro en l ts; exact Sho_bad
 | succ n ih =>
  intro en l ts
  unfold bysM
  refine (byM_len en l ts).and fun a u _ => ?_
  split
  ·next h => exact ((ih en _ _).from (tail_len u)).le
  ·exact Shl.ok (Nat.le_refl _)
theorem gKM_len (en fn : Int) (ts : List Tok) : Shl (gKM en fn ts) ts := by
 unfold gKM
 split
 ·exact ((symbolM_len _ _ _).and fun _ u _ => ((numberM_len _ _ _ _).and fun _ v _ => ((symbolM_len _ _ _).and fun _ x _ => Shl.ok (Nat.le_refl _)).le).le).le
 ·exact Shl.ok (Nat.le_refl _)
theorem gByM_len (en : Int) (ts : List Tok) : Shl (gByM en ts) ts := by
 unfold gByM
 split
 ·next h =>
  refine Shl.from ((symbolM_len _ _ _).and fun _ u _ => ?_).le (tail_len ts)
  split
  ·exact Shl.ok (tail_len u)
  ·exact ((bysM_len _ _ _ _).and fun _ v _ => ((symbolM_len _ _ _).and fun _ x _ => Shl.ok (Nat.le_refl _)).le).le
 ·exact Shl.ok (Nat.le_refl _)
theorem gKidM_len (en : Int) (ex : List Tok → Res Tree) (hex : ∀ us, Sho (ex us) us) (ts : List Tok) : Sho (gKidM en ex ts) ts :=
 (symbolM_len _ _ _).and fun _ u _ => ((hex u).and fun _ v _ => ((symbolM_len _ _ _).and fun _ x _ => Shl.ok (Nat.le_refl _)).le).le
theorem groupM_len (en : Int) (ex : List Tok → Res Tree) (hex : ∀ us, Sho (ex us) us) (fn : Int) (ts : List Tok) : Sho (groupM en ex fn ts) ts :=
 (gKM_len _ _ _).andO fun _ u _ => (gByM_len _ _).andO fun _ v _ => (gKidM_len en ex hex _).and fun _ x _ => Shl.ok (Nat.le_refl _)
theorem matchM_len (en : Int) (b : Nat) (ts : List Tok) : Sho (matchM en b ts) ts := by
 unfold matchM
 split
 ·next h =>
  split
  ·exact Sho_bad
  ·split
   ·next h2 =>
    split
    ·next h3 => exact Sho.ok (Nat.lt_trans (kindT_len h3) (Nat.lt_trans (kindT_len h2.1) (kindT_len h)))
    ·exact Sho_bad
   ·exact Sho_bad
 ·exact Sho_bad
theorem matchsM_len (n : Nat) : ∀ (en : Int) (l : List Mat) (ts : List Tok), Sho (matchsM n en l ts) ts := by
 induction n with
 | zero => intro en l ts; exact Sho_bad
 | succ n ih =>
  intro en l ts
  unfold matchsM
  refine (matchM_len en _ ts).and fun a u _ => ?_
  split
  ·next h => exact ((ih en _ _).from (tail_len u)).le
  ·exact Shl.ok (Nat.le_refl _)
theorem sMatM_len (en : Int) (ts : List Tok) : Shl (sMatM en ts) ts := by
 unfold sMatM
 split
 ·next h =>
  split
  ·exact Shl.ok (Nat.le_trans (tail_len _) (tail_len _))
  ·exact ((matchsM_len _ _ _ _).and fun _ v _ => ((symbolM_len _ _ _).and fun _ x _ => Shl.ok (Nat.le_refl _)).le).le.from (tail_len ts)
 ·exact Shl.ok (Nat.le_refl _)
theorem funM_len (en : Int) (ts : List Tok) : Sho (funM en ts) ts := by
 unfold funM
 split
 ·next h =>
  split
  ·exact Sho.ok (kindT_len h.1)
  ·refine Shl.fromO ((symbolM_len _ _ _).and fun _ u _ => ((numberM_len _ _ _ _).and fun w v _ => ?_).le).le (kindT_len h.1)
   refine Shl.and ?_ fun _ x _ => ((symbolM_len _ _ _).and fun _ x _ => Shl.ok (Nat.le_refl _)).le
   split
   ·exact ((symbolM_len _ _ _).and fun _ x _ => (numberM_len _ _ _ _).le).le
   ·exact Shl.ok (Nat.le_refl _)
 ·exact Sho_bad
theorem sFunM_len (en : Int) (ts : List Tok) : Shl (sFunM en ts) ts := by
 unfold sFunM
 split
 ·exact ((funM_len _ _).from (tail_len ts)).le
 ·exact Shl.ok (Nat.le_refl _)
theorem sOffM_len (en : Int) (ts : List Tok) : Shl (sOffM en ts) ts := by
 unfold sOffM
 split
 ·exact ((numberM_len _ _ _ _).from (tail_len ts)).le
 ·exact Shl.ok (Nat.le_refl _)
theorem selectM_len (en : Int) (nm : List UInt8) (ts : List Tok) : Shl (selectM en nm ts) ts :=
 (sMatM_len _ _).and fun _ _ _ => (sFunM_len _ _).and fun _ _ _ => (sOffM_len _ _).and fun _ _ _ => Shl.ok (Nat.le_refl _)
theorem opLoop_len (opd : List Tok → Res Tree) (hop : ∀ us, Sho (opd us) us) (first : Nat) (n : Nat) : ∀ (left : Tree) (ts : List Tok), Shl (opLoop opd first n left ts) ts := by
 induction n with
 | zero => intro left ts; exact Shl.ok (Nat.le_refl _)
 | succ n ih =>
  intro left ts
  unfold opLoop
  split
  ·next h => exact (((hop _).and fun _ u _ => ih _ _).from (tail_len ts)).le
  ·exact Shl.ok (Nat.le_refl _)
theorem operM_len (opd : List Tok → Res Tree) (hop : ∀ us, Sho (opd us) us) (first : Nat) (ts : List Tok) : Sho (operM opd first ts) ts :=
 (hop ts).and fun _ _ _ => opLoop_len opd hop first _ _ _
theorem exprOf_len (fac : List Tok → Res Tree) (hf : ∀ us, Sho (fac us) us) (ts : List Tok) : Sho (exprOf fac ts) ts := operM_len _ (operM_len fac hf 2) 0 ts
theorem facM_len (en : Int) (n : Nat) : ∀ ts : List Tok, Sho (facM en n ts) ts := by
 induction n with
 | zero => intro ts; exact Sho_bad
 | succ n ih =>
  intro ts
  unfold facM
  split
  ·next h => exact Sho.ok (kindT_len h)
  ·split
   ·next h => exact Shl.fromO ((exprOf_len _ ih _).and fun _ _ _ => ((symbolM_len _ _ _).and fun _ _ _ => Shl.ok (Nat.le_refl _)).le).le (isT_len h)
   ·split
    ·next h =>
     split
     ·exact (groupM_len _ _ (exprOf_len _ ih) _ _).le.fromO (kindT_len h)
     ·exact (selectM_len _ _ _).fromO (kindT_len h)
    ·exact Sho_bad
end
section
open Go.RowKit
def namesL : List ByteArray := [⟨#[97]⟩, ⟨#[97, 98]⟩, ⟨#[98]⟩, ⟨#[106, 111, 98]⟩, ⟨#[120, 95, 49]⟩, ⟨#[122, 111, 110, 101]⟩]
def valuesL : List ByteArray := [⟨#[97]⟩, ⟨#[97, 98]⟩, ⟨#[98]⟩, ⟨#[120, 49]⟩, ⟨#[126, 33]⟩, ⟨#[48]⟩]
def valuesL8 : List ByteArray := valuesL ++ [⟨#[]⟩, ⟨#[120]⟩]
theorem strInfo : (Tryd.prog.info? 9).map (fun i => (i.zero, i.size, i.bytes)) = some (some (.string ⟨#[]⟩), 1, 16) := by kernel_rfl
/-- a matcher made of the lists -/
def GoodMat (m : Mat) : Prop := m.1 ∈ namesL ∧ (0 ≤ m.2.1 ∧ m.2.1 < 3) ∧ m.2.2 ∈ valuesL8
theorem namesL_ok : ∀ x ∈ namesL, nameB x = true ∧ x.size ≤ 16 := by
 intro x hx
 simp [namesL] at hx
 rcases hx with rfl | rfl | rfl | rfl | rfl | rfl <;> exact ⟨by kernel_rfl, by decide⟩
theorem valuesL8_ok : ∀ x ∈ valuesL8, valueB x = true ∧ x.size ≤ 16 := by
 intro x hx
 simp [valuesL8, valuesL] at hx
 rcases hx with rfl | rfl | rfl | rfl | rfl | rfl | rfl | rfl <;> exact ⟨by kernel_rfl, by decide⟩
theorem good_ok {ms : List Mat} (hl : ms.length ≤ 1000) (h : ∀ m ∈ ms, GoodMat m) : MsOk ms := by
 refine ⟨hl, fun x hx => ?_⟩
 have a := (namesL_ok _ (h x hx).1).2
 have b := (valuesL8_ok _ (h x hx).2.2).2
 unfold maxLen; omega
theorem own_newAt {w : World} {k base : Nat} (cs : Array Value) (t : TypeId) (n : Nat) (xs : List Value) (h : w.heap.size = k) (hb : base ≤ k) (hs : cs.size = n) (hx : cs.toList = xs) (hn : n ≤ 1000) : (w.alloc (.cells cs t)).ownsRow base t 1 (.slice (some ⟨k, 0, none⟩) n n) n xs := by
 subst h hx
 exact ⟨by simp [hs], .inr ⟨_, _, cs, rfl, hb, heap_alloc_new w _, Nat.le_refl _, by unfold maxLen; omega, by omega, by rw [Nat.mul_one, ← hs]; exact List.take_of_length_le (by simp)⟩⟩
theorem cells2At {w : World} {k : Nat} (h : w.heap.size = k) (t : TypeId) (v0 v1 : Value) : ∀ j u, [v0, v1][j]? = some u → (w.alloc (.cells #[v0, v1] t)).cell? ((⟨k, 0, none⟩ : Addr).add j) = some u := by
 subst h
 intro j u hj
 match j, hj with
 | 0, hj => simp at hj; subst hj; simp [Addr.add]
 | 1, hj => simp at hj; subst hj; simp [Addr.add]
 | j + 2, hj => simp at hj
def MsRel (w : World) (m : Int) (nv vv v i : Value) (wr : World) : Prop :=
 ∃ (k : Nat) (ms : List Mat), (k : Int) ≤ m ∧ i = .int .i64 k ∧ ms.length = k ∧ (∀ x ∈ ms, GoodMat x) ∧ wr.ownsRow w.heap.size 71 3 v k (ms.flatMap matCells) ∧ Strs wr w.heap.size nv namesL ∧ Strs wr w.heap.size vv valuesL8 ∧ Below w.heap.size w wr
/-- element i of a slice of strings -/
theorem Strs.pick {w : World} {base n c : Nat} {A : Option Addr} {l : List ByteArray} (h : Strs w base (.slice A n c) l) (i : Int) (h0 : 0 ≤ i) (h1 : i < l.length) : ∃ b off x, A = some ⟨b, off, none⟩ ∧ Fit w base 9 b ∧ x ∈ l ∧ w.cell? ⟨b, off + i.toNat, none⟩ = some (.string x) := by
 have hk : i.toNat < l.length := by omega
 obtain ⟨h1, A', c', hv, _, _, h2⟩ := h
 cases hv
 obtain ⟨b, off, rfl, hf, hx⟩ := h2 (by omega)
 exact ⟨b, off, l[i.toNat], rfl, hf, List.getElem_mem hk, hx i.toNat _ (by rw [List.getElem?_map, List.getElem?_eq_getElem hk]; rfl)⟩
theorem fr_below {base : Nat} {T : List TypeId} {w w' : World} (f : Fr base T w w') (h : base ≤ w.heap.size) : Below base w w' := ⟨f.os, f.tape, f.output, f.size, fun k hk => f.block k (by omega) (.inl hk)⟩
theorem fit_cell {base t : Nat} {T : List TypeId} {w w' : World} {b o : Nat} {u : Value} (h : Fit w base t b) (f : Fr base T w w') (ht : t ∉ T) (hc : w.cell? ⟨b, o, none⟩ = some u) : w'.cell? ⟨b, o, none⟩ = some u := (World.cell?_of_block (a := ⟨b, o, none⟩) (h.keep f ht).2).trans hc
theorem Strs.keep {w w' : World} {base : Nat} {T : List TypeId} {v : Value} {l : List ByteArray} (h : Strs w base v l) (f : Fr base T w w') (ht : 9 ∉ T) : Strs w' base v l := Seq.keep h f ht
theorem cells3 (w : World) (t : TypeId) (v0 v1 v2 : Value) : ∀ j u, [v0, v1, v2][j]? = some u → (w.alloc (.cells #[v0, v1, v2] t)).cell? ((⟨w.heap.size, 0, none⟩ : Addr).add j) = some u := by
 intro j u hj
 match j, hj with
 | 0, hj => simp at hj; subst hj; simp [Addr.add]
 | 1, hj => simp at hj; subst hj; simp [Addr.add]
 | 2, hj => simp at hj; subst hj; simp [Addr.add]
 | j + 3, hj => simp at hj
theorem mat_one (m : Mat) : ∀ u ∈ matCells m, u.oneCell' = true := by
 intro u hu
 simp [matCells] at hu
 rcases hu with rfl | rfl | rfl <;> rfl
end
section
open Go.RowKit
end
end Go.Proofs.YtipafbppaaflcaaDoor
