/- Contracts, packed: Kg Qs. -/
import Derived.Test.YtipafbppaaflcaaDoorPl3
import Derived.Test.YtipafbppaaflcaaDoorPl5
import Derived.Maps.AppendAt
import Derived.Deep.AppendLies
import Derived.Laws.OwnMore
set_option linter.unusedVariables false
set_option linter.unusedSimpArgs false
namespace Go.Proofs.YtipafbppaaflcaaDoor
section
open Go.RowKit FracM
abbrev Res (α : Type) := Except (Int × Int) (α × List Tok)
/-- the bytes of the words of the grammar -/
abbrev sOpen : List UInt8 := [40]
abbrev sShut : List UInt8 := [41]
abbrev sComma : List UInt8 := [44]
abbrev sCurl : List UInt8 := [123]
abbrev sLruc : List UInt8 := [125]
abbrev sDot : List UInt8 := [46]
abbrev sAt : List UInt8 := [64]
abbrev sBy : List UInt8 := [98, 121]
def groupsT : List (List UInt8) := [[115, 117, 109], [109, 105, 110], [109, 97, 120], [99, 111, 117, 110, 116], [107, 116, 104]]
def funcsT : List (List UInt8) := [[108, 97, 115, 116], [108, 101, 97, 115, 116], [103, 114, 101, 97, 116, 101, 115, 116], [116, 111, 116, 97, 108], [109, 101, 97, 110], [105, 110, 99, 114, 101, 97, 115, 101], [114, 97, 116, 101], [107, 116, 104]]
def matchT : List (List UInt8) := [[61], [33, 61], [94, 61]]
def opersT : List (List UInt8) := [[43], [45], [42], [47]]
/-- where a word stands in a list; -1: nowhere -/
def idxT (l : List (List UInt8)) (x : List UInt8) : Int := match l.findIdx? (fun y => y == x) with | some i => (i : Int) | none => -1
def isT (ts : List Tok) (k : Int) (x : List UInt8) : Bool := match ts with | [] => false | t :: _ => t.kind == k && t.text == x
def kindT (ts : List Tok) (k : Int) : Bool := match ts with | [] => false | t :: _ => t.kind == k
def failAt (ts : List Tok) (en : Int) : Int := match ts with | [] => en | t :: _ => (t.off : Int)
def bad {α : Type} (en : Int) (ts : List Tok) (e : Int) : Res α := .error (failAt ts en, e)
def andR {α β : Type} (r : Res α) (f : α → List Tok → Res β) : Res β := match r with | .error e => .error e | .ok (a, ts) => f a ts
def headT (ts : List Tok) : Tok := match ts with | [] => ⟨0, [], 0, 0⟩ | t :: _ => t
def symbolM (en : Int) (x : List UInt8) (ts : List Tok) : Res Unit := if isT ts 3 x then .ok ((), ts.tail) else bad en ts 2
def numberM (en lo hi : Int) (ts : List Tok) : Res Int :=
 if kindT ts 1 then (if (headT ts).n < lo ∨ hi < (headT ts).n then bad en ts 5 else .ok ((headT ts).n, ts.tail)) else bad en ts 2
/-- the by clause -/
def byM (en : Int) (before : List ByteArray) (ts : List Tok) : Res ByteArray :=
 if kindT ts 0 then
  if 8 ≤ before.length then bad en ts 4
  else if (match before.getLast? with | none => false | some p => leS (bsL (headT ts).text) p) then bad en ts 8
  else .ok (bsL (headT ts).text, ts.tail)
 else bad en ts 2
def bysM : Nat → Int → List ByteArray → List Tok → Res (List ByteArray)
 | 0, en, _, ts => bad en ts 2
 | n + 1, en, before, ts => andR (byM en before ts) fun x ts' => if isT ts' 3 sComma then bysM n en (before ++ [x]) ts'.tail else .ok (before ++ [x], ts')
def gKM (en fn : Int) (ts : List Tok) : Res Int :=
 if fn = 4 then andR (symbolM en sOpen ts) fun _ ts1 => andR (numberM en 1 4096 ts1) fun k ts2 => andR (symbolM en sShut ts2) fun _ ts3 => .ok (k, ts3) else .ok (0, ts)
def gByM (en : Int) (ts : List Tok) : Res (List ByteArray) :=
 if isT ts 0 sBy then
  andR (symbolM en sOpen ts.tail) fun _ ts1 =>
   if isT ts1 3 sShut then .ok ([], ts1.tail)
   else andR (bysM (ts1.length + 1) en [] ts1) fun l ts2 => andR (symbolM en sShut ts2) fun _ ts3 => .ok (l, ts3)
 else .ok ([], ts)
def gKidM (en : Int) (ex : List Tok → Res Tree) (ts : List Tok) : Res Tree :=
 andR (symbolM en sOpen ts) fun _ ts1 => andR (ex ts1) fun t ts2 => andR (symbolM en sShut ts2) fun _ ts3 => .ok (t, ts3)
def groupM (en : Int) (ex : List Tok → Res Tree) (fn : Int) (ts : List Tok) : Res Tree :=
 andR (gKM en fn ts) fun k ts1 => andR (gByM en ts1) fun l ts2 => andR (gKidM en ex ts2) fun t ts3 => .ok (.node ⟨2, fn, 0, 0, k, 0, 0, ⟨#[]⟩, [], l⟩ [t], ts3)
/-- a selection -/
def matchM (en : Int) (before : Nat) (ts : List Tok) : Res Mat :=
 if kindT ts 0 then
  if 8 ≤ before then bad en ts 4
  else if kindT ts.tail 3 ∧ 0 ≤ idxT matchT (headT ts.tail).text then
   (if kindT ts.tail.tail 2 then .ok ((bsL (headT ts).text, idxT matchT (headT ts.tail).text, bsL (headT ts.tail.tail).text), ts.tail.tail.tail) else bad en ts.tail.tail 2)
  else bad en ts.tail 2
 else bad en ts 2
def matchsM : Nat → Int → List Mat → List Tok → Res (List Mat)
 | 0, en, _, ts => bad en ts 2
 | n + 1, en, before, ts => andR (matchM en before.length ts) fun x ts' => if isT ts' 3 sComma then matchsM n en (before ++ [x]) ts'.tail else .ok (before ++ [x], ts')
def sMatM (en : Int) (ts : List Tok) : Res (List Mat) :=
 if isT ts 3 sCurl then
  (if isT ts.tail 3 sLruc then .ok ([], ts.tail.tail) else andR (matchsM (ts.tail.length + 1) en [] ts.tail) fun l ts2 => andR (symbolM en sLruc ts2) fun _ ts3 => .ok (l, ts3))
 else .ok ([], ts)
/-- the function: its number, the window, the rank -/
def funM (en : Int) (ts : List Tok) : Res (Int × Int × Int) :=
 if kindT ts 0 ∧ 0 ≤ idxT funcsT (headT ts).text then
  if idxT funcsT (headT ts).text = 0 then .ok ((0, 0, 0), ts.tail)
  else andR (symbolM en sOpen ts.tail) fun _ ts1 => andR (numberM en 1 4096 ts1) fun w ts2 =>
   andR (if idxT funcsT (headT ts).text = 7 then andR (symbolM en sComma ts2) fun _ ts3 => numberM en 1 w ts3 else .ok (0, ts2)) fun k ts4 =>
    andR (symbolM en sShut ts4) fun _ ts5 => .ok ((idxT funcsT (headT ts).text, w, k), ts5)
 else bad en ts 2
def sFunM (en : Int) (ts : List Tok) : Res (Int × Int × Int) := if isT ts 3 sDot then funM en ts.tail else .ok ((0, 0, 0), ts)
def sOffM (en : Int) (ts : List Tok) : Res Int := if isT ts 3 sAt then numberM en 0 4096 ts.tail else .ok (0, ts)
def selectM (en : Int) (name : List UInt8) (ts : List Tok) : Res Tree :=
 andR (sMatM en ts) fun l ts1 => andR (sFunM en ts1) fun f ts2 => andR (sOffM en ts2) fun o ts3 => .ok (.node ⟨1, f.1, f.2.1, o, f.2.2, 0, 0, bsL name, l, []⟩ [], ts3)
/-- operations -/
def opAt (k : Nat) : List UInt8 := opersT.getD k []
def opFn (first : Nat) (ts : List Tok) : Nat := if isT ts 3 (opAt first) then first else first + 1
def binT (fn : Nat) (a b : Tree) : Tree := .node ⟨3, (fn : Int), 0, 0, 0, 0, 0, ⟨#[]⟩, [], []⟩ [a, b]
def opLoop (operand : List Tok → Res Tree) (first : Nat) : Nat → Tree → List Tok → Res Tree
 | 0, left, ts => .ok (left, ts)
 | n + 1, left, ts =>
  if isT ts 3 (opAt (opFn first ts)) then andR (operand ts.tail) fun right ts' => opLoop operand first n (binT (opFn first ts) left right) ts'
  else .ok (left, ts)
def operM (operand : List Tok → Res Tree) (first : Nat) (ts : List Tok) : Res Tree := andR (operand ts) fun left ts' => opLoop operand first (ts'.length + 1) left ts'
def termOf (fac : List Tok → Res Tree) (ts : List Tok) : Res Tree := operM fac 2 ts
def exprOf (fac : List Tok → Res Tree) (ts : List Tok) : Res Tree := operM (termOf fac) 0 ts
def numT (n : Int) : Tree := .node ⟨0, 0, 0, 0, 0, n, 1, ⟨#[]⟩, [], []⟩ []
def facM (en : Int) : Nat → List Tok → Res Tree
 | 0, ts => bad en ts 2
 | n + 1, ts =>
  if kindT ts 1 then .ok (numT (headT ts).n, ts.tail)
  else if isT ts 3 sOpen then andR (exprOf (facM en n) ts.tail) fun t ts1 => andR (symbolM en sShut ts1) fun _ ts2 => .ok (t, ts2)
  else if kindT ts 0 then
   (if 0 ≤ idxT groupsT (headT ts).text then groupM en (exprOf (facM en n)) (idxT groupsT (headT ts).text) ts.tail else selectM en (headT ts).text ts.tail)
  else bad en ts 2
def zeroT : Tree := .node ⟨0, 0, 0, 0, 0, 0, 0, ⟨#[]⟩, [], []⟩ []
/-- the parse of a text: the tree, the offset, the error -/
def parseT (s : List UInt8) : Tree × Int × Int :=
 if 2000 < s.length then (zeroT, 2000, 4)
 else if (lexM s.length 0 s).2.1 = 0 then
  match exprOf (facM s.length (s.length + 1)) (lexM s.length 0 s).1 with
  | .error f => (zeroT, f.1, f.2)
  | .ok (t, []) => if fitB t then (t, 0, 0) else (zeroT, s.length, 4)
  | .ok (t, x :: _) => (zeroT, x.off, 2)
 else (zeroT, (lexM s.length 0 s).2.2, (lexM s.length 0 s).2.1)
end
section
open Go.RowKit
/-- block b is a row of cells of element type t -/
def TyAt (w : World) (b : Nat) (t : TypeId) : Prop := ∃ cs fz, w.heap[b]? = some (.cells cs t fz)
theorem TyAt.set {w : World} {b : Nat} {t : TypeId} (h : TyAt w b t) (a : Addr) (v : Value) : TyAt (w.setCell a v) b t := by
 obtain ⟨cs, fz, h⟩ := h
 simp only [TyAt, World.setCell, Array.getElem?_modify, h]
 split
 ·exact ⟨_, _, rfl⟩
 ·exact ⟨_, _, rfl⟩
theorem TyAt.lt {w : World} {b : Nat} {t : TypeId} (h : TyAt w b t) : b < w.heap.size := by
 obtain ⟨cs, fz, h⟩ := h
 rcases Nat.lt_or_ge b w.heap.size with hlt | hge
 ·exact hlt
 ·rw [Array.getElem?_eq_none hge] at h; cases h
theorem TyAt.below {w w' : World} {b : Nat} {t : TypeId} (h : TyAt w b t) (hb : Below w.heap.size w w') : TyAt w' b t := by
 have := hb.block b h.lt
 obtain ⟨cs, fz, h⟩ := h
 exact ⟨cs, fz, this.trans h⟩
theorem TyAt.keep {w w' : World} {b : Nat} {t : TypeId} {base : Nat} {T : List TypeId} (h : TyAt w b t) (f : Fr base T w w') (ht : t ∉ T) : TyAt w' b t := by
 have hl := h.lt
 obtain ⟨cs, fz, h⟩ := h
 exact ⟨cs, fz, (f.block b hl (.inr ⟨cs, t, fz, h, ht⟩)).trans h⟩
theorem TyAt.alloc {w : World} {b : Nat} {t : TypeId} (h : TyAt w b t) (o : Obj) : TyAt (w.alloc o) b t := h.below (bel1 _ _)
theorem TyAt.drew {w : World} {b : Nat} {t : TypeId} (h : TyAt w b t) : TyAt w.drew b t := h
theorem TyAt.new (w : World) (cs : Array Value) (t : TypeId) (fz : Nat × Nat) : TyAt (w.alloc (.cells cs t fz)) w.heap.size t := ⟨cs, fz, heap_alloc_new w _⟩
theorem Fr.set {base : Nat} {T : List TypeId} {w0 w : World} (h : Fr base T w0 w) {a : Addr} {t : TypeId} (ht : TyAt w a.block t) (hT : t ∈ T) (hb : base ≤ a.block) (v : Value) : Fr base T w0 (w.setCell a v) := by
 refine h.trans ⟨rfl, rfl, rfl, by simp [World.setCell], fun k hk hc => Below.heap_setCell _ _ _ _ ?_⟩
 rintro rfl
 obtain ⟨cs, fz, ht⟩ := ht
 rcases hc with hc | ⟨cs', t', fz', hc, hn⟩
 ·omega
 ·rw [ht] at hc; cases hc; exact hn hT
theorem Fr.drew {base : Nat} {T : List TypeId} {w0 w : World} (h : Fr base T w0 w) : Fr base T w0 w.drew := ⟨h.os, h.tape, h.output, h.size, h.block⟩
theorem Fr.alloc {base : Nat} {T : List TypeId} {w0 w : World} (h : Fr base T w0 w) (o : Obj) : Fr base T w0 (w.alloc o) := h.trans (Fr.of_below (bel1 _ _))
theorem Fr.then_ {base : Nat} {T : List TypeId} {w0 w w' : World} (h : Fr base T w0 w) (k : Below w.heap.size w w') : Fr base T w0 w' := h.trans (Fr.of_below k)
theorem TyAt.newAt {w : World} {k : Nat} (cs : Array Value) (t : TypeId) (fz : Nat × Nat) (h : w.heap.size = k) : TyAt (w.alloc (.cells cs t fz)) k t := by subst h; exact TyAt.new _ _ _ _
theorem Fr.setAt {base : Nat} {T : List TypeId} {w0 w : World} (h : Fr base T w0 w) {b : Nat} {t : TypeId} (ht : TyAt w b t) (hT : t ∈ T) (hb : base ≤ b) (j : Nat) (v : Value) : Fr base T w0 (w.setCell ⟨b, j, none⟩ v) :=
 Fr.set h (a := ⟨b, j, none⟩) ht hT hb v
/-- the strings fit, the matchers are few -/
def MsOk (ms : List Mat) : Prop := ms.length ≤ 1000 ∧ ∀ x ∈ ms, x.1.size ≤ maxLen ∧ x.2.2.size ≤ maxLen
theorem Mats.form {w : World} {base : Nat} {v : Value} {l : List Mat} (h : Mats w base v l) : ∃ A c, v = .slice A l.length c := by
 obtain ⟨_, A, c, hv, _⟩ := h
 exact ⟨A, c, hv⟩
/-- a slice of matchers is returned -/
def RetMats (w : World) (base : Nat) (ms : List Mat) (e : Ending) (w' : World) : Prop := ∃ A n c, e = .returned (.slice A n c) ∧ Mats w' base (.slice A n c) ms ∧ Below w.heap.size w w'
theorem matInfo : (Tryd.prog.info? 71).map (fun i => (i.zero, i.size, i.bytes)) = some (some (.agg #[.string ⟨#[]⟩, .int .i64 0, .string ⟨#[]⟩]), 3, 40) := by kernel_rfl
theorem matCells_one (ms : List Mat) : ∀ u ∈ ms.flatMap matCells, u.oneCell' = true := by
 intro u hu
 obtain ⟨x, _, hx⟩ := List.mem_flatMap.1 hu
 simp [matCells] at hx
 rcases hx with rfl | rfl | rfl <;> rfl
theorem Seq.news {w : World} {base t size n c : Nat} {ad : Addr} {xs : List Value} (h : Seq w base t size (.slice (some ad) n c) n xs) : ∀ j u, xs[j]? = some u → w.cell? (ad.add j) = some u := by
 intro j u hu
 obtain ⟨h1, A, c', hv, _, _, h2⟩ := h
 cases hv
 rcases Nat.eq_zero_or_pos n with h0 | h0
 ·subst h0
  have hn : xs = [] := List.eq_nil_of_length_eq_zero (by simpa using h1)
  rw [hn] at hu; simp at hu
 ·obtain ⟨b, off, hA, _, hx⟩ := h2 h0
  cases hA
  have := hx j u hu
  unfold Addr.add
  split
  ·next e => subst e; exact this
  ·exact this
theorem mats_of_own {w1 : World} {B m base' : Nat} {v : Value} {ms : List Mat} (h : w1.ownsRow B 71 3 v m ([] ++ ms.flatMap matCells)) (hm : m = ms.length) :
  ∃ A n c, v = .slice A n c ∧ Mats w1 base' (.slice A n c) ms := by
 rw [List.nil_append] at h
 subst hm
 have hs : Seq w1 base' 71 3 v ms.length (ms.flatMap matCells) := Seq.of_own h
 obtain ⟨_, A, c, hv, _⟩ := id hs
 exact ⟨A, ms.length, c, hv, by rw [← hv]; exact hs⟩
theorem own_form {w : World} {B t size n : Nat} {v : Value} {xs : List Value} (h : w.ownsRow B t size v n xs) : ∃ A c, v = .slice A n c := by
 rcases h.2 with ⟨rfl, rfl⟩ | ⟨g, cap, cur, rfl, _⟩
 ·exact ⟨_, _, rfl⟩
 ·exact ⟨_, _, rfl⟩
theorem Fr.grown {base : Nat} {T : List TypeId} {w0 w w' : World} {row : Option Nat} {t : TypeId} (h : Fr base T w0 w) (hg : w.grownBy w' row) (hr : ∀ g, row = some g → base ≤ g ∧ TyAt w g t) (hT : t ∈ T) : Fr base T w0 w' := by
 refine h.trans ⟨hg.os, hg.tape, hg.output, hg.size, fun k hk hc => hg.block k hk ?_⟩
 intro e
 obtain ⟨hb, cs, fz, ht⟩ := hr k e.symm
 rcases hc with hc | ⟨cs', t', fz', hc, hn⟩
 ·omega
 ·rw [ht] at hc; cases hc; exact hn hT
theorem own_below {w w' : World} {B t size n : Nat} {v : Value} {xs : List Value} (h : w.ownsRow B t size v n xs) (hb : Below w.heap.size w w') : w'.ownsRow B t size v n xs :=
 h.kept (row := none) ⟨hb.os, hb.tape, hb.output, hb.size, fun i hi _ => hb.block i hi⟩ (by cases hv : v.ownBlock <;> simp)
theorem own_ty {w : World} {B t size n : Nat} {v : Value} {xs : List Value} (h : w.ownsRow B t size v n xs) : ∀ g, v.ownBlock = some g → B ≤ g ∧ TyAt w g t := by
 intro g hg
 rcases h.2 with ⟨rfl, _⟩ | ⟨g', cap, cur, rfl, hb, hh, _⟩
 ·simp [Value.ownBlock] at hg
 ·simp [Value.ownBlock] at hg; subst hg; exact ⟨hb, cur, _, hh⟩
/-- a row of the call's own has grown: blocks of other types are as they were -/
theorem grow_fr {W W' w9 : World} {base n t size : Nat} {v : Value} {xs : List Value} (hown : W.ownsRow base t size v n xs) (hb : Below W.heap.size W W') (hg : W'.grownBy w9 v.ownBlock) : Fr base [t] W w9 :=
 Fr.grown (t := t) (Fr.of_below hb) hg (fun g hg => (own_ty (own_below hown hb)) g hg) (by simp)
theorem own_fr {w w' : World} {B t size n base : Nat} {T : List TypeId} {v : Value} {xs : List Value} (h : w.ownsRow B t size v n xs) (f : Fr base T w w') (ht : t ∉ T) : w'.ownsRow B t size v n xs := by
 refine ⟨h.1, ?_⟩
 rcases h.2 with h2 | ⟨g, cap, cur, hv, hb, hh, r⟩
 ·exact .inl h2
 ·exact .inr ⟨g, cap, cur, hv, hb, (f.block g (TyAt.lt ⟨_, _, hh⟩) (.inr ⟨_, _, _, hh, ht⟩)).trans hh, r⟩
end
end Go.Proofs.YtipafbppaaflcaaDoor
