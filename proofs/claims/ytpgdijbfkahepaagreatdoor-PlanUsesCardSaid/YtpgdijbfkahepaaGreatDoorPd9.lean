/- Contracts, packed: Qg Yf Km. -/
import Derived.Test.YtpgdijbfkahepaaGreatDoorPd8
set_option linter.unusedVariables false
set_option linter.unusedSimpArgs false
namespace Go.Proofs.YtpgdijbfkahepaaGreatDoor
section
open Go.RowKit
def I64 (x : Int) : Prop := -9223372036854775808 ≤ x ∧ x ≤ 9223372036854775807
def Ints (w : World) (base : Nat) (v : Value) (l : List Int) : Prop := Seq w base 3 1 v l.length (l.map (Value.int .i64)) ∧ ∀ x ∈ l, I64 x
def Strs (w : World) (base : Nat) (v : Value) (l : List ByteArray) : Prop := Seq w base 9 1 v l.length (l.map Value.string)
theorem Ints.nil (w : World) (base : Nat) : Ints w base (.slice none 0 0) [] := ⟨Seq.nil _ _ _ _, fun x hx => by simp at hx⟩
theorem Ints.below {w w' : World} {base : Nat} {v : Value} {l : List Int} (h : Ints w base v l) (f : Below w.heap.size w w') : Ints w' base v l := ⟨h.1.below f, h.2⟩
theorem Strs.below {w w' : World} {base : Nat} {v : Value} {l : List ByteArray} (h : Strs w base v l) (f : Below w.heap.size w w') : Strs w' base v l := Seq.below h f
theorem Seq.len {w : World} {base t size m n c : Nat} {A : Option Addr} {xs : List Value} (h : Seq w base t size (.slice A n c) m xs) : n = m ∧ n ≤ 9223372036854775807 := by
 obtain ⟨_, A', c', hv, h1, h2, _⟩ := h
 cases hv
 unfold maxLen at h2
 exact ⟨rfl, by omega⟩
theorem Seq.at1 {w : World} {base t n c : Nat} {A : Option Addr} {m : Nat} {xs : List Value} (h : Seq w base t 1 (.slice A n c) m xs) (k : Nat) (u : Value) (hk : xs[k]? = some u) : ∃ b off, A = some ⟨b, off, none⟩ ∧ b < w.heap.size ∧ w.cell? ⟨b, off + k, none⟩ = some u := by
 obtain ⟨h1, A', c', hv, _, _, h2⟩ := h
 cases hv
 have hlt : k < xs.length := (List.getElem?_eq_some_iff.1 hk).1
 obtain ⟨b, off, rfl, hf, hx⟩ := h2 (by omega)
 exact ⟨b, off, rfl, hf.1, hx k u hk⟩
/-- an argument that is a slice of integers -/
theorem Ints.of_row {w : World} {x : Addr} {len cap : Nat} {zs : List Int} (hl : len ≤ cap) (hm : cap ≤ maxLen) (hz : zs.length = cap) (hcell : ∀ i, i < zs.length → w.cell? (x.add i) = some (.int .i64 (zs.getD i 0))) (hwf : ∀ n ∈ zs, (Lit.int .i64 n).wf = true) :
  Ints w w.heap.size (.slice (some x) len cap) (zs.take len) := by
 have hl' : (zs.take len).length = len := by rw [List.length_take]; omega
 refine ⟨⟨by simp, some x, cap, by rw [hl'], by omega, hm, fun h0 => ?_⟩, fun y hy => ?_⟩
 ·have h1 := hcell 0 (by omega)
  have hsp : x.spot = none := by
   cases hs : x.spot with
   | none => rfl
   | some q =>
    simp only [Addr.add, if_pos, World.cell?] at h1
    split at h1
    ·simp [hs] at h1
    ·cases h1
  obtain ⟨b, off, sp⟩ := x
  simp only at hsp
  subst hsp
  have hb : b < w.heap.size := World.block_lt_of_cell? w ⟨b, off, none⟩ (u := .int .i64 (zs.getD 0 0)) (by simpa [Addr.add] using h1)
  refine ⟨b, off, rfl, ⟨hb, .inl hb⟩, fun j u hu => ?_⟩
  rw [List.getElem?_map] at hu
  obtain ⟨y, hy, rfl⟩ := Option.map_eq_some_iff.1 hu
  obtain ⟨hjl, hjy⟩ := List.getElem?_eq_some_iff.1 hy
  have hj : j < zs.length := by rw [List.length_take] at hjl; omega
  have := hcell j hj
  have e : zs.getD j 0 = y := by rw [← hjy, List.getElem_take]; simp [List.getD_eq_getElem?_getD, hj]
  rw [e] at this
  unfold Addr.add at this
  split at this
  ·next h => subst h; exact this
  ·exact this
 ·have := hwf y (List.mem_of_mem_take hy)
  simpa [I64, Lit.wf, IntKind.min, IntKind.max, IntKind.signed, IntKind.bits] using this
/-- 'Pick' -/
def pickZ (l : List Int) (i most : Int) : Int := if i < 0 ∨ (l.length : Int) ≤ i then 0 else around (l.getD i.toNat 0) most
theorem pick_bd (l : List Int) (i most : Int) (h : 1 ≤ most) : 0 ≤ pickZ l i most ∧ pickZ l i most < most := by
 unfold pickZ
 split
 ·omega
 ·exact around_bd _ _ h
set_option maxHeartbeats 400000 in
theorem pick_any (A : Option Addr) (n c base : Nat) (l : List Int) (i most : Int) (w : World) (h : Ints w base (.slice A n c) l) (h1 : 1 ≤ most) (h2 : most ≤ 9223372036854775807) :
  Calls Tryz.prog 12 #[.slice A n c, .int .i64 i, .int .i64 most] w fun e w' => e = .returned (.int .i64 (pickZ l i most)) ∧ w = w' := by
 obtain ⟨hn, hm⟩ := h.1.len
 by_cases h0 : i < 0
 ·have E : Hid (pickZ l i most = 0) := if_pos (.inl h0)
  clear h hn
  go_enter Tryz.func12, Tryz.ntmps12
  go_wp2
  go_ret
  exact ⟨ret_int (by rw [E.out]), rfl⟩
 by_cases h3 : (n : Int) ≤ i
 ·have E : Hid (pickZ l i most = 0) := if_pos (.inr (by omega))
  clear h hn
  go_enter Tryz.func12, Tryz.ntmps12
  go_wp2
  go_ret
  exact ⟨ret_int (by rw [E.out]), rfl⟩
 obtain ⟨k, rfl⟩ : ∃ k : Nat, i = (k : Int) := ⟨i.toNat, by omega⟩
 have hk : k < l.length := by omega
 have hk' : k < n := by omega
 have hx : l[k]? = some l[k] := List.getElem?_eq_getElem hk
 have E : Hid (pickZ l (k : Int) most = around l[k] most) := by
  unfold pickZ
  rw [Hid, if_neg (by omega)]
  simp [List.getD_eq_getElem?_getD, hx]
 obtain ⟨b, off, rfl, hb, hc⟩ := h.1.at1 k (.int .i64 l[k]) (by rw [List.getElem?_map, hx]; rfl)
 have hr := h.2 l[k] (List.getElem_mem hk)
 obtain ⟨hr1, hr2⟩ := hr
 generalize l[k] = z at *
 clear h hn hx
 go_enter Tryz.func12, Tryz.ntmps12
 go_wp2_with (go_at_call 17; refine (around_any _ _ _ hr1 hr2 h1 h2).mono ?_; rintro e w' ⟨rfl, rfl⟩)
 go_ret
 exact ⟨ret_int (by rw [E.out]), rfl⟩
theorem names_any (w : World) : Calls Tryz.prog 26 #[] w fun e w' => e = .returned (.slice (some ⟨w.heap.size, 0, none⟩) 6 6) ∧ w' = w.alloc (.cells #[.string ⟨#[97]⟩, .string ⟨#[97, 98]⟩, .string ⟨#[98]⟩, .string ⟨#[106, 111, 98]⟩, .string ⟨#[120, 95, 49]⟩, .string ⟨#[122, 111, 110, 101]⟩] 9) := by
 go_enter Tryz.func26, Tryz.ntmps26
 go_wp2
 go_ret
 exact ⟨rfl, rfl⟩
theorem values_any (w : World) : Calls Tryz.prog 27 #[] w fun e w' => e = .returned (.slice (some ⟨w.heap.size, 0, none⟩) 6 6) ∧ w' = w.alloc (.cells #[.string ⟨#[97]⟩, .string ⟨#[97, 98]⟩, .string ⟨#[98]⟩, .string ⟨#[120, 49]⟩, .string ⟨#[126, 33]⟩, .string ⟨#[48]⟩] 9) := by
 go_enter Tryz.func27, Tryz.ntmps27
 go_wp2
 go_ret
 exact ⟨rfl, rfl⟩
/-- a block of literal strings, as a slice -/
theorem Strs.new (w : World) (base : Nat) (l : List ByteArray) (cs : Array Value) (h : cs.toList = l.map Value.string) (hl : l.length ≤ 1000) : Strs (w.alloc (.cells cs 9)) base (.slice (some ⟨w.heap.size, 0, none⟩) l.length l.length) l := by
 refine ⟨by simp, _, _, rfl, Nat.le_refl _, by unfold maxLen; omega, fun _ => ⟨w.heap.size, 0, rfl, ⟨by simp, .inr ⟨_, _, heap_alloc_new w _⟩⟩, ?_⟩⟩
 intro j u hj
 rw [← h] at hj
 have := cell_of_row (w.alloc (.cells cs 9)) w.heap.size (0 + j) cs 9 (0, 0) (heap_alloc_new w _)
 rw [this, Nat.zero_add]
 simpa using hj
end
section
open Go.RowKit
/-- of the old blocks only g may have turned -/
structure Only (g : Nat) (w w' : World) : Prop where
 os : w'.os = w.os
 tape : w'.tape = w.tape
 output : w'.output = w.output
 size : w.heap.size ≤ w'.heap.size
 block : ∀ k, k < w.heap.size → k ≠ g → w'.heap[k]? = w.heap[k]?
theorem Only.of_below {g : Nat} {w w' : World} (h : Below w.heap.size w w') : Only g w w' := ⟨h.os, h.tape, h.output, h.size, fun k hk _ => h.block k hk⟩
theorem Only.trans {g : Nat} {a b c : World} (h : Only g a b) (k : Only g b c) : Only g a c :=
 ⟨k.os.trans h.os, k.tape.trans h.tape, k.output.trans h.output, Nat.le_trans h.size k.size, fun i hi hn => by rw [k.block i (Nat.lt_of_lt_of_le hi h.size) hn, h.block i hi hn]⟩
theorem Only.below {g B : Nat} {w w' : World} (h : Only g w w') (hg : B ≤ g) (hB : B ≤ w.heap.size) : Below B w w' := ⟨h.os, h.tape, h.output, h.size, fun k hk => h.block k (by omega) (by omega)⟩
theorem Only.blk {g k : Nat} {w w' : World} {t : TypeId} {cs : Array Value} (h : Only g w w') (hb : Blk w k t cs) (hn : k ≠ g) : Blk w' k t cs := (h.block k hb.lt hn).trans hb
theorem Only.setCell {g : Nat} {w : World} (o : Nat) (u : Value) : Only g w (w.setCell ⟨g, o, none⟩ u) := by
 refine ⟨rfl, rfl, rfl, by simp [World.setCell], fun k hk hn => ?_⟩
 exact Below.heap_setCell w ⟨g, o, none⟩ u k hn
theorem Only.newCell {g : Nat} {w W : World} (h : Only g w W) {p : Addr} (hp : w.heap.size ≤ p.block) (u : Value) : Only g w (W.setCell p u) :=
 ⟨h.os, h.tape, h.output, by have := h.size; simpa [World.setCell] using this, fun k hk hn => (Below.heap_setCell W p u k (by omega)).trans (h.block k hk hn)⟩
end
section
open Go.RowKit FracM
theorem andR_ok {α β : Type} {r : Res α} {f : α → List Tok → Res β} {p : β × List Tok} (h : andR r f = .ok p) : ∃ a ts, r = .ok (a, ts) ∧ f a ts = .ok p := by
 unfold andR at h
 cases r with
 | error e => cases h
 | ok q => obtain ⟨a, ts⟩ := q; exact ⟨a, ts, rfl, h⟩
theorem isT_len {ts : List Tok} {k : Int} {x : List UInt8} (h : isT ts k x = true) : ts.tail.length < ts.length := by
 cases ts with
 | nil => simp [isT] at h
 | cons t r => simp
theorem kindT_len {ts : List Tok} {k : Int} (h : kindT ts k = true) : ts.tail.length < ts.length := by
 cases ts with
 | nil => simp [kindT] at h
 | cons t r => simp
theorem tail_len (ts : List Tok) : ts.tail.length ≤ ts.length := by simp
/-- what is left is shorter -/
def Sho {α : Type} (r : Res α) (ts : List Tok) : Prop := ∀ a u, r = .ok (a, u) → u.length < ts.length
def Shl {α : Type} (r : Res α) (ts : List Tok) : Prop := ∀ a u, r = .ok (a, u) → u.length ≤ ts.length
theorem Sho.le {α : Type} {r : Res α} {ts : List Tok} (h : Sho r ts) : Shl r ts := fun a u e => Nat.le_of_lt (h a u e)
theorem Sho_bad {α : Type} {en e : Int} {ts us : List Tok} : Sho (bad en us e : Res α) ts := fun a u h => by unfold Go.Proofs.YtpgdijbfkahepaaGreatDoor.bad at h; cases h
theorem Sho.ok {α : Type} {a : α} {u ts : List Tok} (h : u.length < ts.length) : Sho (.ok (a, u)) ts := fun b v e => by cases e; exact h
theorem Shl.ok {α : Type} {a : α} {u ts : List Tok} (h : u.length ≤ ts.length) : Shl (.ok (a, u)) ts := fun b v e => by cases e; exact h
theorem Sho.and {α β : Type} {r : Res α} {f : α → List Tok → Res β} {ts : List Tok} (h : Sho r ts) (k : ∀ a u, r = .ok (a, u) → Shl (f a u) u) : Sho (andR r f) ts := fun b v e => by
 obtain ⟨a, u, h1, h2⟩ := andR_ok e
 exact Nat.lt_of_le_of_lt (k a u h1 _ _ h2) (h _ _ h1)
theorem Shl.andO {α β : Type} {r : Res α} {f : α → List Tok → Res β} {ts : List Tok} (h : Shl r ts) (k : ∀ a u, r = .ok (a, u) → Sho (f a u) u) : Sho (andR r f) ts := fun b v e => by
 obtain ⟨a, u, h1, h2⟩ := andR_ok e
 exact Nat.lt_of_lt_of_le (k a u h1 _ _ h2) (h _ _ h1)
theorem Shl.and {α β : Type} {r : Res α} {f : α → List Tok → Res β} {ts : List Tok} (h : Shl r ts) (k : ∀ a u, r = .ok (a, u) → Shl (f a u) u) : Shl (andR r f) ts := fun b v e => by
 obtain ⟨a, u, h1, h2⟩ := andR_ok e
 exact Nat.le_trans (k a u h1 _ _ h2) (h _ _ h1)
theorem Sho.from {α : Type} {r : Res α} {ts us : List Tok} (h : Sho r ts) (k : ts.length ≤ us.length) : Sho r us := fun a u e => Nat.lt_of_lt_of_le (h a u e) k
theorem Shl.from {α : Type} {r : Res α} {ts us : List Tok} (h : Shl r ts) (k : ts.length ≤ us.length) : Shl r us := fun a u e => Nat.le_trans (h a u e) k
theorem Shl.fromO {α : Type} {r : Res α} {ts us : List Tok} (h : Shl r ts) (k : ts.length < us.length) : Sho r us := fun a u e => Nat.lt_of_le_of_lt (h a u e) k
theorem symbolM_len (en : Int) (x : List UInt8) (ts : List Tok) : Sho (symbolM en x ts) ts := by
 unfold symbolM
 split
 ·next h => exact Sho.ok (isT_len h)
 ·exact Sho_bad
theorem numberM_len (en lo hi : Int) (ts : List Tok) : Sho (numberM en lo hi ts) ts := by
 unfold numberM
 split
 ·next h =>
  split
  ·exact Sho_bad
  ·exact Sho.ok (kindT_len h)
 ·exact Sho_bad
theorem byM_len (en : Int) (l : List ByteArray) (ts : List Tok) : Sho (byM en l ts) ts := by
 unfold byM
 split
 ·next h =>
  split
  ·exact Sho_bad
  ·split
   ·split
    ·exact Sho_bad
    ·exact Sho.ok (kindT_len h)
   ·split
    ·exact Sho_bad
    ·exact Sho.ok (kindT_len h)
 ·exact Sho_bad
theorem bysM_len (n : Nat) : ∀ (en : Int) (l : List ByteArray) (ts : List Tok), Sho (bysM n en l ts) ts := by
 induction n with
 | zero => intro en l ts; exact Sho_bad
 | succ n ih =>
  intro en l ts
  unfold bysM
  refine (byM_len en l ts).and fun a u _ => ?_
  split
  ·next h => exact ((ih en _ _).from (tail_len u)).le
  ·exact Shl.ok (Nat.le_refl _)
theorem gKM_len (en fn : Int) (ts : List Tok) : Shl (gKM en fn ts) ts := by
 unfold gKM
 split
 ·exact ((symbolM_len _ _ _).and fun _ u _ => ((numberM_len _ _ _ _).and fun _ v _ => ((symbolM_len _ _ _).and fun _ x _ => Shl.ok (Nat.le_refl _)).le).le).le
 ·exact Shl.ok (Nat.le_refl _)
theorem gByM_len (en : Int) (ts : List Tok) : Shl (gByM en ts) ts := by
 unfold gByM
 split
 ·next h =>
  refine Shl.from ((symbolM_len _ _ _).and fun _ u _ => ?_).le (tail_len ts)
  split
  ·exact Shl.ok (tail_len u)
  ·exact ((bysM_len _ _ _ _).and fun _ v _ => ((symbolM_len _ _ _).and fun _ x _ => Shl.ok (Nat.le_refl _)).le).le
 ·exact Shl.ok (Nat.le_refl _)
theorem gKidM_len (en : Int) (ex : List Tok → Res Tree) (hex : ∀ us, Sho (ex us) us) (ts : List Tok) : Sho (gKidM en ex ts) ts :=
 (symbolM_len _ _ _).and fun _ u _ => ((hex u).and fun _ v _ => ((symbolM_len _ _ _).and fun _ x _ => Shl.ok (Nat.le_refl _)).le).le
theorem groupM_len (en : Int) (ex : List Tok → Res Tree) (hex : ∀ us, Sho (ex us) us) (fn : Int) (ts : List Tok) : Sho (groupM en ex fn ts) ts :=
 (gKM_len _ _ _).andO fun _ u _ => (gByM_len _ _).andO fun _ v _ => (gKidM_len en ex hex _).and fun _ x _ => Shl.ok (Nat.le_refl _)
theorem matchM_len (en : Int) (b : Nat) (ts : List Tok) : Sho (matchM en b ts) ts := by
 unfold matchM
 split
 ·next h =>
  split
  ·exact Sho_bad
  ·split
   ·next h2 =>
    split
    ·next h3 => exact Sho.ok (Nat.lt_trans (kindT_len h3) (Nat.lt_trans (kindT_len h2.1) (kindT_len h)))
    ·exact Sho_bad
   ·exact Sho_bad
 ·exact Sho_bad
theorem matchsM_len (n : Nat) : ∀ (en : Int) (l : List Mat) (ts : List Tok), Sho (matchsM n en l ts) ts := by
 induction n with
 | zero => intro en l ts; exact Sho_bad
 | succ n ih =>
  intro en l ts
  unfold matchsM
  refine (matchM_len en _ ts).and fun a u _ => ?_
  split
  ·next h => exact ((ih en _ _).from (tail_len u)).le
  ·exact Shl.ok (Nat.le_refl _)
theorem sMatM_len (en : Int) (ts : List Tok) : Shl (sMatM en ts) ts := by
 unfold sMatM
 split
 ·next h =>
  split
  ·exact Shl.ok (Nat.le_trans (tail_len _) (tail_len _))
  ·exact ((matchsM_len _ _ _ _).and fun _ v _ => ((symbolM_len _ _ _).and fun _ x _ => Shl.ok (Nat.le_refl _)).le).le.from (tail_len ts)
 ·exact Shl.ok (Nat.le_refl _)
theorem funM_len (en : Int) (ts : List Tok) : Sho (funM en ts) ts := by
 unfold funM
 split
 ·next h =>
  split
  ·exact Sho.ok (kindT_len h.1)
  ·refine Shl.fromO ((symbolM_len _ _ _).and fun _ u _ => ((numberM_len _ _ _ _).and fun w v _ => ?_).le).le (kindT_len h.1)
   refine Shl.and ?_ fun _ x _ => ((symbolM_len _ _ _).and fun _ x _ => Shl.ok (Nat.le_refl _)).le
   split
   ·exact ((symbolM_len _ _ _).and fun _ x _ => (numberM_len _ _ _ _).le).le
   ·exact Shl.ok (Nat.le_refl _)
 ·exact Sho_bad
theorem sFunM_len (en : Int) (ts : List Tok) : Shl (sFunM en ts) ts := by
 unfold sFunM
 split
 ·exact ((funM_len _ _).from (tail_len ts)).le
 ·exact Shl.ok (Nat.le_refl _)
theorem sOffM_len (en : Int) (ts : List Tok) : Shl (sOffM en ts) ts := by
 unfold sOffM
 split
 ·exact ((numberM_len _ _ _ _).from (tail_len ts)).le
 ·exact Shl.ok (Nat.le_refl _)
theorem selectM_len (en : Int) (nm : List UInt8) (ts : List Tok) : Shl (selectM en nm ts) ts :=
 (sMatM_len _ _).and fun _ _ _ => (sFunM_len _ _).and fun _ _ _ => (sOffM_len _ _).and fun _ _ _ => Shl.ok (Nat.le_refl _)
theorem opLoop_len (opd : List Tok → Res Tree) (hop : ∀ us, Sho (opd us) us) (first : Nat) (n : Nat) : ∀ (left : Tree) (ts : List Tok), Shl (opLoop opd first n left ts) ts := by
 induction n with
 | zero => intro left ts; exact Shl.ok (Nat.le_refl _)
 | succ n ih =>
  intro left ts
  unfold opLoop
  split
  ·next h => exact (((hop _).and fun _ u _ => ih _ _).from (tail_len ts)).le
  ·exact Shl.ok (Nat.le_refl _)
theorem operM_len (opd : List Tok → Res Tree) (hop : ∀ us, Sho (opd us) us) (first : Nat) (ts : List Tok) : Sho (operM opd first ts) ts :=
 (hop ts).and fun _ _ _ => opLoop_len opd hop first _ _ _
theorem exprOf_len (fac : List Tok → Res Tree) (hf : ∀ us, Sho (fac us) us) (ts : List Tok) : Sho (exprOf fac ts) ts := operM_len _ (operM_len fac hf 2) 0 ts
theorem facM_len (en : Int) (n : Nat) : ∀ ts : List Tok, Sho (facM en n ts) ts := by
 induction n with
 | zero => intro ts; exact Sho_bad
 | succ n ih =>
  intro ts
  unfold facM
  split
  ·next h => exact Sho.ok (kindT_len h)
  ·split
   ·next h => exact Shl.fromO ((exprOf_len _ ih _).and fun _ _ _ => ((symbolM_len _ _ _).and fun _ _ _ => Shl.ok (Nat.le_refl _)).le).le (isT_len h)
   ·split
    ·next h =>
     split
     ·exact (groupM_len _ _ (exprOf_len _ ih) _ _).le.fromO (kindT_len h)
     ·exact (selectM_len _ _ _).fromO (kindT_len h)
    ·exact Sho_bad
end
end Go.Proofs.YtpgdijbfkahepaaGreatDoor
