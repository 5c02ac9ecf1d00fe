/- Contracts, packed: Qs Ye Yf Ja Km. -/
import Derived.Test.YthoibeajhdhdhaaGreatDoorPe5
import Derived.Test.YthoibeajhdhdhaaGreatDoorPe7
import Derived.Maps.AppendAt
import Derived.Deep.AppendLies
import Derived.Laws.OwnMore
import Derived.Laws.Concat
import Derived.Lib.ItoaLen
set_option linter.unusedVariables false
set_option linter.unusedSimpArgs false
namespace Go.Proofs.YthoibeajhdhdhaaGreatDoor
section
open Go.RowKit
/-- block b is a row of cells of element type t -/
def TyAt (w : World) (b : Nat) (t : TypeId) : Prop := ∃ cs fz, w.heap[b]? = some (.cells cs t fz)
/-- the strings fit, the matchers are few -/
def MsOk (ms : List Mat) : Prop := ms.length ≤ 1000 ∧ ∀ x ∈ ms, x.1.size ≤ maxLen ∧ x.2.2.size ≤ maxLen
theorem matInfo : (Tryz.prog.info? 91).map (fun i => (i.zero, i.size, i.bytes)) = some (some (.agg #[.string ⟨#[]⟩, .int .i64 0, .string ⟨#[]⟩]), 3, 40) := by kernel_rfl
theorem own_form {w : World} {B t size n : Nat} {v : Value} {xs : List Value} (h : w.ownsRow B t size v n xs) : ∃ A c, v = .slice A n c := by
 rcases h.2 with ⟨rfl, rfl⟩ | ⟨g, cap, cur, rfl, _⟩
 ·exact ⟨_, _, rfl⟩
 ·exact ⟨_, _, rfl⟩
theorem Fr.grown {base : Nat} {T : List TypeId} {w0 w w' : World} {row : Option Nat} {t : TypeId} (h : Fr base T w0 w) (hg : w.grownBy w' row) (hr : ∀ g, row = some g → base ≤ g ∧ TyAt w g t) (hT : t ∈ T) : Fr base T w0 w' := by
 refine h.trans ⟨hg.os, hg.tape, hg.output, hg.size, fun k hk hc => hg.block k hk ?_⟩
 intro e
 obtain ⟨hb, cs, fz, ht⟩ := hr k e.symm
 rcases hc with hc | ⟨cs', t', fz', hc, hn⟩
 ·omega
 ·rw [ht] at hc; cases hc; exact hn hT
theorem own_below {w w' : World} {B t size n : Nat} {v : Value} {xs : List Value} (h : w.ownsRow B t size v n xs) (hb : Below w.heap.size w w') : w'.ownsRow B t size v n xs :=
 h.kept (row := none) ⟨hb.os, hb.tape, hb.output, hb.size, fun i hi _ => hb.block i hi⟩ (by cases hv : v.ownBlock <;> simp)
theorem own_ty {w : World} {B t size n : Nat} {v : Value} {xs : List Value} (h : w.ownsRow B t size v n xs) : ∀ g, v.ownBlock = some g → B ≤ g ∧ TyAt w g t := by
 intro g hg
 rcases h.2 with ⟨rfl, _⟩ | ⟨g', cap, cur, rfl, hb, hh, _⟩
 ·simp [Value.ownBlock] at hg
 ·simp [Value.ownBlock] at hg; subst hg; exact ⟨hb, cur, _, hh⟩
/-- a row of the call's own has grown: blocks of other types are as they were -/
theorem grow_fr {W W' w9 : World} {base n t size : Nat} {v : Value} {xs : List Value} (hown : W.ownsRow base t size v n xs) (hb : Below W.heap.size W W') (hg : W'.grownBy w9 v.ownBlock) : Fr base [t] W w9 :=
 Fr.grown (t := t) (Fr.of_below hb) hg (fun g hg => (own_ty (own_below hown hb)) g hg) (by simp)
end
section
open Go.RowKit
end
section
open Go.RowKit
/-- of the old blocks only g may have turned -/
structure Only (g : Nat) (w w' : World) : Prop where
 os : w'.os = w.os
 tape : w'.tape = w.tape
 output : w'.output = w.output
 size : w.heap.size ≤ w'.heap.size
 block : ∀ k, k < w.heap.size → k ≠ g → w'.heap[k]? = w.heap[k]?
theorem Only.of_below {g : Nat} {w w' : World} (h : Below w.heap.size w w') : Only g w w' := ⟨h.os, h.tape, h.output, h.size, fun k hk _ => h.block k hk⟩
theorem Only.trans {g : Nat} {a b c : World} (h : Only g a b) (k : Only g b c) : Only g a c :=
 ⟨k.os.trans h.os, k.tape.trans h.tape, k.output.trans h.output, Nat.le_trans h.size k.size, fun i hi hn => by rw [k.block i (Nat.lt_of_lt_of_le hi h.size) hn, h.block i hi hn]⟩
theorem Only.below {g B : Nat} {w w' : World} (h : Only g w w') (hg : B ≤ g) (hB : B ≤ w.heap.size) : Below B w w' := ⟨h.os, h.tape, h.output, h.size, fun k hk => h.block k (by omega) (by omega)⟩
theorem Only.blk {g k : Nat} {w w' : World} {t : TypeId} {cs : Array Value} (h : Only g w w') (hb : Blk w k t cs) (hn : k ≠ g) : Blk w' k t cs := (h.block k hb.lt hn).trans hb
theorem Only.setCell {g : Nat} {w : World} (o : Nat) (u : Value) : Only g w (w.setCell ⟨g, o, none⟩ u) := by
 refine ⟨rfl, rfl, rfl, by simp [World.setCell], fun k hk hn => ?_⟩
 exact Below.heap_setCell w ⟨g, o, none⟩ u k hn
theorem Only.newCell {g : Nat} {w W : World} (h : Only g w W) {p : Addr} (hp : w.heap.size ≤ p.block) (u : Value) : Only g w (W.setCell p u) :=
 ⟨h.os, h.tape, h.output, by have := h.size; simpa [World.setCell] using this, fun k hk hn => (Below.heap_setCell W p u k (by omega)).trans (h.block k hk hn)⟩
end
section
open Go.RowKit FracM
def natE (n d : Int) : Bool := d == 1 && decide (0 ≤ n) && decide (n ≤ 1073741824)
def writB (n d : Int) : Bool := decide (-1073741824 ≤ n) && decide (n ≤ 1073741824) && decide (d ≤ 1073741824)
def absI (n : Int) : Int := if n < 0 then -n else n
def numB (n d : Int) : List UInt8 := (if n < 0 then [48, 45] else []) ++ (Lib.itoa (absI n) ++ (if d = 1 then [] else 47 :: Lib.itoa d))
def numL (n d : Int) : List UInt8 := if natE n d then Lib.itoa n else 40 :: (numB n d ++ [41])
def matL (m : Mat) : List UInt8 := m.1.data.toList ++ (matchT.getD m.2.1.toNat [] ++ (34 :: (m.2.2.data.toList ++ [34])))
def matsR : List Mat → List UInt8
 | [] => [125]
 | m :: ms => 44 :: (matL m ++ matsR ms)
def matsL : List Mat → List UInt8
 | [] => []
 | m :: ms => 123 :: (matL m ++ matsR ms)
def funL (fn win k : Int) : List UInt8 := if fn = 0 then [] else 46 :: (funcsT.getD fn.toNat [] ++ (40 :: (Lib.itoa win ++ ((if fn = 7 then 44 :: Lib.itoa k else []) ++ [41]))))
def offL (o : Int) : List UInt8 := if o = 0 then [] else 64 :: Lib.itoa o
def selL (d : Nd) : List UInt8 := d.name.data.toList ++ (matsL d.ms ++ (funL d.fn d.win d.k ++ offL d.off))
def bysR : List ByteArray → List UInt8
 | [] => [41]
 | x :: xs => 44 :: (x.data.toList ++ bysR xs)
def bysL : List ByteArray → List UInt8
 | [] => []
 | x :: xs => [98, 121, 40] ++ (x.data.toList ++ bysR xs)
def grpL (d : Nd) : List UInt8 := groupsT.getD d.fn.toNat [] ++ ((if d.fn = 4 then 40 :: (Lib.itoa d.k ++ [41]) else if d.bys.isEmpty then [] else [32]) ++ bysL d.bys)
def precT (d : Nd) : Nat := if d.kind = 3 then (if d.fn = 0 ∨ d.fn = 1 then 1 else 2) else 3
def encl (b : Bool) (l : List UInt8) : List UInt8 := if b then 40 :: (l ++ [41]) else l
def joinN (d : Nd) (ds : List Nd) (ls : List (List UInt8)) : List UInt8 :=
 if d.kind = 0 then numL d.num d.den
 else if d.kind = 1 then selL d
 else if d.kind = 2 then grpL d ++ (40 :: (ls.headD [] ++ [41]))
 else match ds, ls with
  | [a, b], [x, y] => encl (decide (precT a < precT d)) x ++ (opersT.getD d.fn.toNat [] ++ encl (decide (precT b ≤ precT d)) y)
  | _, _ => []
mutual
def showT : Tree → List UInt8
 | .node d ks => joinN d (ks.map Tree.d) (showL ks)
def showL : List Tree → List (List UInt8)
 | [] => []
 | t :: ts => showT t :: showL ts
end
mutual
def prtB : Tree → Bool
 | .node d ks => if d.kind = 0 then writB d.num d.den else prtL ks
def prtL : List Tree → Bool
 | [] => true
 | t :: ts => prtB t && prtL ts
end
/-- the text of a tree, the error -/
def printT (t : Tree) : List UInt8 × Int :=
 if validE t = 0 then (if prtB t = false then ([], 5) else if 2000 < (showT t).length then ([], 4) else (showT t, 0)) else ([], validE t)
end
section
open Go.RowKit FracM
theorem andR_ok {α β : Type} {r : Res α} {f : α → List Tok → Res β} {p : β × List Tok} (h : andR r f = .ok p) : ∃ a ts, r = .ok (a, ts) ∧ f a ts = .ok p := by
 unfold andR at h
 cases r with
 | error e => cases h
 | ok q => obtain ⟨a, ts⟩ := q; exact ⟨a, ts, rfl, h⟩
theorem isT_len {ts : List Tok} {k : Int} {x : List UInt8} (h : isT ts k x = true) : ts.tail.length < ts.length := by
 cases ts with
 | nil => simp [isT] at h
 | cons t r => simp
theorem kindT_len {ts : List Tok} {k : Int} (h : kindT ts k = true) : ts.tail.length < ts.length := by
 cases ts with
 | nil => simp [kindT] at h
 | cons t r => simp
theorem tail_len (ts : List Tok) : ts.tail.length ≤ ts.length := by simp
/-- what is left is shorter -/
def Sho {α : Type} (r : Res α) (ts : List Tok) : Prop := ∀ a u, r = .ok (a, u) → u.length < ts.length
def Shl {α : Type} (r : Res α) (ts : List Tok) : Prop := ∀ a u, r = .ok (a, u) → u.length ≤ ts.length
theorem Sho.le {α : Type} {r : Res α} {ts : List Tok} (h : Sho r ts) : Shl r ts := fun a u e => Nat.le_of_lt (h a u e)
theorem Sho_bad {α : Type} {en e : Int} {ts us : List Tok} : Sho (bad en us e : Res α) ts := fun a u h => by unfold Go.Proofs.YthoibeajhdhdhaaGreatDoor.bad at h; cases h
theorem Sho.ok {α : Type} {a : α} {u ts : List Tok} (h : u.length < ts.length) : Sho (.ok (a, u)) ts := fun b v e => by cases e; exact h
theorem Shl.ok {α : Type} {a : α} {u ts : List Tok} (h : u.length ≤ ts.length) : Shl (.ok (a, u)) ts := fun b v e => by cases e; exact h
theorem Sho.and {α β : Type} {r : Res α} {f : α → List Tok → Res β} {ts : List Tok} (h : Sho r ts) (k : ∀ a u, r = .ok (a, u) → Shl (f a u) u) : Sho (andR r f) ts := fun b v e => by
 obtain ⟨a, u, h1, h2⟩ := andR_ok e
 exact Nat.lt_of_le_of_lt (k a u h1 _ _ h2) (h _ _ h1)
theorem Shl.andO {α β : Type} {r : Res α} {f : α → List Tok → Res β} {ts : List Tok} (h : Shl r ts) (k : ∀ a u, r = .ok (a, u) → Sho (f a u) u) : Sho (andR r f) ts := fun b v e => by
 obtain ⟨a, u, h1, h2⟩ := andR_ok e
 exact Nat.lt_of_lt_of_le (k a u h1 _ _ h2) (h _ _ h1)
theorem Shl.and {α β : Type} {r : Res α} {f : α → List Tok → Res β} {ts : List Tok} (h : Shl r ts) (k : ∀ a u, r = .ok (a, u) → Shl (f a u) u) : Shl (andR r f) ts := fun b v e => by
 obtain ⟨a, u, h1, h2⟩ := andR_ok e
 exact Nat.le_trans (k a u h1 _ _ h2) (h _ _ h1)
theorem Sho.from {α : Type} {r : Res α} {ts us : List Tok} (h : Sho r ts) (k : ts.length ≤ us.length) : Sho r us := fun a u e => Nat.lt_of_lt_of_le (h a u e) k
theorem Shl.from {α : Type} {r : Res α} {ts us : List Tok} (h : Shl r ts) (k : ts.length ≤ us.length) : Shl r us := fun a u e => Nat.le_trans (h a u e) k
theorem Shl.fromO {α : Type} {r : Res α} {ts us : List Tok} (h : Shl r ts) (k : ts.length < us.length) : Sho r us := fun a u e => Nat.lt_of_le_of_lt (h a u e) k
theorem symbolM_len (en : Int) (x : List UInt8) (ts : List Tok) : Sho (symbolM en x ts) ts := by
 unfold symbolM
 split
 ·next h => exact Sho.ok (isT_len h)
 ·exact Sho_bad
theorem numberM_len (en lo hi : Int) (ts : List Tok) : Sho (numberM en lo hi ts) ts := by
 unfold numberM
 split
 ·next h =>
  split
  ·exact Sho_bad
  ·exact Sho.ok (kindT_len h)
 ·exact Sho_bad
theorem byM_len (en : Int) (l : List ByteArray) (ts : List Tok) : Sho (byM en l ts) ts := by
 unfold byM
 split
 ·next h =>
  split
  ·exact Sho_bad
  ·split
   ·split
    ·exact Sho_bad
    ·exact Sho.ok (kindT_len h)
   ·split
    ·exact Sho_bad
    ·exact Sho.ok (kindT_len h)
 ·exact Sho_bad
theorem bysM_len (n : Nat) : ∀ (en : Int) (l : List ByteArray) (ts : List Tok), Sho (bysM n en l ts) ts := by
 induction n with
 | zero => intro en l ts; exact Sho_bad
 | succ n ih =>
  intro en l ts
  unfold bysM
  refine (byM_len en l ts).and fun a u _ => ?_
  split
  ·next h => exact ((ih en _ _).from (tail_len u)).le
  ·exact Shl.ok (Nat.le_refl _)
theorem gKM_len (en fn : Int) (ts : List Tok) : Shl (gKM en fn ts) ts := by
 unfold gKM
 split
 ·exact ((symbolM_len _ _ _).and fun _ u _ => ((numberM_len _ _ _ _).and fun _ v _ => ((symbolM_len _ _ _).and fun _ x _ => Shl.ok (Nat.le_refl _)).le).le).le
 ·exact Shl.ok (Nat.le_refl _)
theorem gByM_len (en : Int) (ts : List Tok) : Shl (gByM en ts) ts := by
 unfold gByM
 split
 ·next h =>
  refine Shl.from ((symbolM_len _ _ _).and fun _ u _ => ?_).le (tail_len ts)
  split
  ·exact Shl.ok (tail_len u)
  ·exact ((bysM_len _ _ _ _).and fun _ v _ => ((symbolM_len _ _ _).and fun _ x _ => Shl.ok (Nat.le_refl _)).le).le
 ·exact Shl.ok (Nat.le_refl _)
theorem gKidM_len (en : Int) (ex : List Tok → Res Tree) (hex : ∀ us, Sho (ex us) us) (ts : List Tok) : Sho (gKidM en ex ts) ts :=
 (symbolM_len _ _ _).and fun _ u _ => ((hex u).and fun _ v _ => ((symbolM_len _ _ _).and fun _ x _ => Shl.ok (Nat.le_refl _)).le).le
theorem groupM_len (en : Int) (ex : List Tok → Res Tree) (hex : ∀ us, Sho (ex us) us) (fn : Int) (ts : List Tok) : Sho (groupM en ex fn ts) ts :=
 (gKM_len _ _ _).andO fun _ u _ => (gByM_len _ _).andO fun _ v _ => (gKidM_len en ex hex _).and fun _ x _ => Shl.ok (Nat.le_refl _)
theorem matchM_len (en : Int) (b : Nat) (ts : List Tok) : Sho (matchM en b ts) ts := by
 unfold matchM
 split
 ·next h =>
  split
  ·exact Sho_bad
  ·split
   ·next h2 =>
    split
    ·next h3 => exact Sho.ok (Nat.lt_trans (kindT_len h3) (Nat.lt_trans (kindT_len h2.1) (kindT_len h)))
    ·exact Sho_bad
   ·exact Sho_bad
 ·exact Sho_bad
theorem matchsM_len (n : Nat) : ∀ (en : Int) (l : List Mat) (ts : List Tok), Sho (matchsM n en l ts) ts := by
 induction n with
 | zero => intro en l ts; exact Sho_bad
 | succ n ih =>
  intro en l ts
  unfold matchsM
  refine (matchM_len en _ ts).and fun a u _ => ?_
  split
  ·next h => exact ((ih en _ _).from (tail_len u)).le
  ·exact Shl.ok (Nat.le_refl _)
theorem sMatM_len (en : Int) (ts : List Tok) : Shl (sMatM en ts) ts := by
 unfold sMatM
 split
 ·next h =>
  split
  ·exact Shl.ok (Nat.le_trans (tail_len _) (tail_len _))
  ·exact ((matchsM_len _ _ _ _).and fun _ v _ => ((symbolM_len _ _ _).and fun _ x _ => Shl.ok (Nat.le_refl _)).le).le.from (tail_len ts)
 ·exact Shl.ok (Nat.le_refl _)
theorem funM_len (en : Int) (ts : List Tok) : Sho (funM en ts) ts := by
 unfold funM
 split
 ·next h =>
  split
  ·exact Sho.ok (kindT_len h.1)
  ·refine Shl.fromO ((symbolM_len _ _ _).and fun _ u _ => ((numberM_len _ _ _ _).and fun w v _ => ?_).le).le (kindT_len h.1)
   refine Shl.and ?_ fun _ x _ => ((symbolM_len _ _ _).and fun _ x _ => Shl.ok (Nat.le_refl _)).le
   split
   ·exact ((symbolM_len _ _ _).and fun _ x _ => (numberM_len _ _ _ _).le).le
   ·exact Shl.ok (Nat.le_refl _)
 ·exact Sho_bad
theorem sFunM_len (en : Int) (ts : List Tok) : Shl (sFunM en ts) ts := by
 unfold sFunM
 split
 ·exact ((funM_len _ _).from (tail_len ts)).le
 ·exact Shl.ok (Nat.le_refl _)
theorem sOffM_len (en : Int) (ts : List Tok) : Shl (sOffM en ts) ts := by
 unfold sOffM
 split
 ·exact ((numberM_len _ _ _ _).from (tail_len ts)).le
 ·exact Shl.ok (Nat.le_refl _)
theorem selectM_len (en : Int) (nm : List UInt8) (ts : List Tok) : Shl (selectM en nm ts) ts :=
 (sMatM_len _ _).and fun _ _ _ => (sFunM_len _ _).and fun _ _ _ => (sOffM_len _ _).and fun _ _ _ => Shl.ok (Nat.le_refl _)
theorem opLoop_len (opd : List Tok → Res Tree) (hop : ∀ us, Sho (opd us) us) (first : Nat) (n : Nat) : ∀ (left : Tree) (ts : List Tok), Shl (opLoop opd first n left ts) ts := by
 induction n with
 | zero => intro left ts; exact Shl.ok (Nat.le_refl _)
 | succ n ih =>
  intro left ts
  unfold opLoop
  split
  ·next h => exact (((hop _).and fun _ u _ => ih _ _).from (tail_len ts)).le
  ·exact Shl.ok (Nat.le_refl _)
theorem operM_len (opd : List Tok → Res Tree) (hop : ∀ us, Sho (opd us) us) (first : Nat) (ts : List Tok) : Sho (operM opd first ts) ts :=
 (hop ts).and fun _ _ _ => opLoop_len opd hop first _ _ _
theorem exprOf_len (fac : List Tok → Res Tree) (hf : ∀ us, Sho (fac us) us) (ts : List Tok) : Sho (exprOf fac ts) ts := operM_len _ (operM_len fac hf 2) 0 ts
theorem facM_len (en : Int) (n : Nat) : ∀ ts : List Tok, Sho (facM en n ts) ts := by
 induction n with
 | zero => intro ts; exact Sho_bad
 | succ n ih =>
  intro ts
  unfold facM
  split
  ·next h => exact Sho.ok (kindT_len h)
  ·split
   ·next h => exact Shl.fromO ((exprOf_len _ ih _).and fun _ _ _ => ((symbolM_len _ _ _).and fun _ _ _ => Shl.ok (Nat.le_refl _)).le).le (isT_len h)
   ·split
    ·next h =>
     split
     ·exact (groupM_len _ _ (exprOf_len _ ih) _ _).le.fromO (kindT_len h)
     ·exact (selectM_len _ _ _).fromO (kindT_len h)
    ·exact Sho_bad
end
end Go.Proofs.YthoibeajhdhdhaaGreatDoor
