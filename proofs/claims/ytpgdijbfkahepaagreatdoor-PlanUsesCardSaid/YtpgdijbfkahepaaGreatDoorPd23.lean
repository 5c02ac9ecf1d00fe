/- Contracts, packed: Kp Qk Zb Zc Uj Uo Ui Un. -/
import Derived.Test.YtpgdijbfkahepaaGreatDoorPd1
import Derived.Test.YtpgdijbfkahepaaGreatDoorPd13
import Derived.Test.YtpgdijbfkahepaaGreatDoorPd19
import Derived.Test.YtpgdijbfkahepaaGreatDoorPd20
import Derived.Laws.Concat
import Derived.Shelf.SlicesE.Clone
set_option linter.unusedVariables false
set_option linter.unusedSimpArgs false
namespace Go.Proofs.YtpgdijbfkahepaaGreatDoor
section
open Go.RowKit FracM
/-- the words of a variable, in its cells -/
def WordsAt (w : World) (g : Nat) (l : List (List UInt8)) : Prop := g < w.heap.size ∧ ∀ (k : Nat) (x : List UInt8), l[k]? = some x → w.cell? ⟨g, k, none⟩ = some (.string (bsL x))
theorem WordsAt.below {w w' : World} {g : Nat} {l : List (List UInt8)} (h : WordsAt w g l) (hb : Below w.heap.size w w') : WordsAt w' g l := ⟨Nat.lt_of_lt_of_le h.1 hb.size, fun k x hx => (hb.cell h.1).trans (h.2 k x hx)⟩
theorem WordsAt.only {w w' : World} {g q : Nat} {l : List (List UInt8)} (h : WordsAt w g l) (hb : Only q w w') (hq : g ≠ q) : WordsAt w' g l := ⟨Nat.lt_of_lt_of_le h.1 hb.size, fun k x hx => (World.cell?_of_block (a := ⟨g, k, none⟩) (hb.block g h.1 hq)).trans (h.2 k x hx)⟩
/-- a block behind the variables -/
def Far (p : Nat) : Prop := 1 < p ∧ 3 < p ∧ 2 < p ∧ 0 < p
theorem Far.le {p q : Nat} (h : Far p) (k : p ≤ q) : Far q := ⟨Nat.lt_of_lt_of_le h.1 k, Nat.lt_of_lt_of_le h.2.1 k, Nat.lt_of_lt_of_le h.2.2.1 k, Nat.lt_of_lt_of_le h.2.2.2 k⟩
/-- all variables of the parser; q: the block of the parser's state -/
structure WordsP (w : World) (q : Nat) : Prop where
 grp : WordsAt w 1 groupsT
 fn : WordsAt w 3 funcsT
 mat : WordsAt w 2 matchT
 opr : WordsAt w 0 opersT
 far : Far q
theorem WordsP.below {w w' : World} {q : Nat} (h : WordsP w q) (hb : Below w.heap.size w w') : WordsP w' q := ⟨h.grp.below hb, h.fn.below hb, h.mat.below hb, h.opr.below hb, h.far⟩
theorem WordsP.only {w w' : World} {q p : Nat} (h : WordsP w q) (hb : Only p w w') (hp : Far p) : WordsP w' q :=
 ⟨h.grp.only hb (Nat.ne_of_lt hp.1), h.fn.only hb (Nat.ne_of_lt hp.2.1), h.mat.only hb (Nat.ne_of_lt hp.2.2.1), h.opr.only hb (Nat.ne_of_lt hp.2.2.2), h.far⟩
theorem getD_map (l : List (List UInt8)) (k : Nat) : (l.map bsL).getD k ByteArray.empty = bsL (l.getD k []) := by
 rw [List.getD_eq_getElem?_getD, List.getD_eq_getElem?_getD, List.getElem?_map]
 cases l[k]? <;> rfl
theorem idx_eq (l : List (List UInt8)) (x : List UInt8) : Lib.idxOfS (l.map bsL) (bsL x) = idxT l x := by
 have ht : l.map bsL = (l.map bsL).take l.length := by rw [List.take_of_length_le (by simp)]
 rw [ht]
 unfold idxT
 cases h : l.findIdx? (fun y => y == x) with
 | none =>
  rw [List.findIdx?_eq_none_iff] at h
  refine Lib.idxOfS_miss _ _ _ fun j hj e => ?_
  rw [getD_map, bsL_inj] at e
  have := h (l[j]) (List.getElem_mem hj)
  rw [List.getD_eq_getElem?_getD, List.getElem?_eq_getElem hj] at e
  simp at e this
  exact this e
 | some i =>
  rw [List.findIdx?_eq_some_iff_getElem] at h
  obtain ⟨hi, h1, h2⟩ := h
  refine Lib.idxOfS_hit _ _ i _ hi (by simp) ?_ fun j hj e => ?_
  ·rw [getD_map, bsL_inj, List.getD_eq_getElem?_getD, List.getElem?_eq_getElem hi]
   simpa using h1
  ·rw [getD_map, bsL_inj, List.getD_eq_getElem?_getD, List.getElem?_eq_getElem (by omega)] at e
   have := h2 j hj
   simp at e this
   exact this e
theorem pindex_any (g n : Nat) (l : List (List UInt8)) (hn : n = l.length) (hl : n ≤ 100) (x : List UInt8) (w : World) (h : WordsAt w g l) :
  Calls Tryz.prog 92 #[.slice (some ⟨g, 0, none⟩) n n, .string (bsL x)] w fun e w' => e = .returned (.int .i64 (idxT l x)) ∧ w = w' := by
 subst hn
 refine (Tryz.slices_Index_string g 0 l.length l.length (l.map bsL) (bsL x) w (by simp) (by omega) (fun j hj => ?_)).mono ?_
 ·rw [getD_map, Nat.zero_add]
  simp only [List.length_map] at hj
  exact h.2 j _ (by rw [List.getD_eq_getElem?_getD, List.getElem?_eq_getElem hj]; rfl)
 ·rintro e w' ⟨rfl, rfl⟩
  refine ⟨?_, rfl⟩
  rw [List.take_of_length_le (by simp), idx_eq]
end
section
open Go.RowKit FracM
def AnyP : Nat → Nat → Prop := fun _ _ => True
def StrsP (w : World) (v : Value) (l : List ByteArray) : Prop := SeqP w AnyP 1 v l.length (l.map Value.string)
end
section
open Go.RowKit
end
section
open Go.RowKit
end
section
open Go.Shelf Go.RowKit Go.Lib
variable {P : Program} {ρ : Ren}
set_option maxHeartbeats 2000000 in
set_option maxRecDepth 100000 in
theorem clone_zero (L : SlLaysE0.n41 P ρ) (i0 : TypeInfo) (z : Value) (size bytes : Nat) (hi : P.info? (ρ.t 23) = some i0) (hz0 : i0.zero = some z) (hz1 : i0.size = size) (hz2 : i0.bytes = bytes) (hzs : z.cells.size = size) (hsz : 0 < size)
  (z23 : ∀ w, (Go.sizeOf (ρ.t 23)).run P w = .ok size w) (a : Addr) (c : Nat) (w : World) :
  Calls P (ρ.f 41) #[.slice (some a) 0 c] w fun e w' => ∃ v', e = .returned v' ∧ w'.ownsRow w.heap.size (ρ.t 23) size v' 0 [] ∧ Below w.heap.size w w' := by
 have mixed := L.mixed; have t4 := L.t4; have a4 := L.a4; have z4 := L.z4; have v4 := L.v4; have t22 := L.t22; have a22 := L.a22; have z22 := L.z22; have v22 := L.v22
 have q22 : ∀ (w : World) (a : Option Addr) (n c n' c' : Nat), (binOp .eql (ρ.t 22) (.slice a n c) (.slice none n' c')).run P w = .ok (.bool a.isNone) w := fun w a n c n' c' => Lib.run_eql_slice_nil w _ _ a n c n' c' L.t22
 have u22 : ∀ w, Sem.run P (underlying (ρ.t 22)) w = .ok (TypeDesc.slice (ρ.t 23)) w := run_underlying t22
 obtain ⟨_, _, FG⟩ := L.f41
 go_enter FG, SlBodyN.n41_ntmps ρ
 go_wp2_with (at_builtin; refine wpList_append_own _ rfl _ _ (ρ.t 22) rfl w.heap.size (ρ.t 23) i0 z size bytes t22 hi hz0 hz1 hz2 hzs hsz _ _ _ rfl (World.ownsRow_made w #[] 0 (Nat.le_refl _) (Nat.zero_le _) (by simp)) a 0 c [] rfl ?qc1 ?qc2 ?qc3 ?qc4 ?qc5 ?qc6 ?_)
 case qc1 => simp
 case qc2 => intro j u hj; simp at hj
 case qc3 => intro u hu; cases hu
 case qc4 => exact Nat.zero_le _
 case qc5 => omega
 case qc6 => simp
 intro v' w1 hown hgrow hnil
 go_wp2
 go_ret
 refine ⟨v', rfl, by simpa using hown, ?_⟩
 exact ((Below.refl _ w).alloc (Nat.le_refl _) _).grown hgrow (by simp) (by intro k hk; simp [Value.ownBlock] at hk; omega)
/-- Clone of a slice that lies as cells -/
theorem clone_seq (L : SlLaysE0.n41 P ρ) (i0 : TypeInfo) (z : Value) (size bytes : Nat) (hi : P.info? (ρ.t 23) = some i0) (hz0 : i0.zero = some z) (hz1 : i0.size = size) (hz2 : i0.bytes = bytes) (hzs : z.cells.size = size) (hsz : 0 < size)
  (z23 : ∀ w, (Go.sizeOf (ρ.t 23)).run P w = .ok size w) {Q : Nat → Nat → Prop} {v : Value} {n : Nat} {xs : List Value} {w : World} (h : SeqP w Q size v n xs) (hbig : n * bytes ≤ 140737488355328) (h1 : ∀ u ∈ xs, u.oneCell' = true) :
  Calls P (ρ.f 41) #[v] w fun e w' => ∃ v', e = .returned v' ∧ SeqP w' (fun b _ => w.heap.size ≤ b) size v' n xs ∧ Below w.heap.size w w' := by
 obtain ⟨hl, A, c, rfl, hn, hc, hx⟩ := h
 rcases Nat.eq_zero_or_pos n with h0 | h0
 ·subst h0
  obtain rfl : xs = [] := List.eq_nil_of_length_eq_zero (by simpa using hl)
  cases A with
  | none =>
   refine (AnyE.slices_Clone_nil L 0 c w).mono ?_
   rintro e w' ⟨rfl, rfl⟩
   exact ⟨_, rfl, SeqP.nil _ _ _, Below.refl _ _⟩
  | some a =>
   refine (clone_zero L i0 z size bytes hi hz0 hz1 hz2 hzs hsz z23 a c w).mono ?_
   rintro e w' ⟨v', rfl, ho, hb⟩
   exact ⟨v', rfl, SeqP.of_own ho fun b _ hb _ => hb, hb⟩
 ·obtain ⟨b, off, rfl, hb, hp, hcell⟩ := hx h0
  refine (AnyE.slices_Clone L i0 z size bytes hi hz0 hz1 hz2 hzs hsz z23 b off n c xs w hl (by omega) hbig hcell h1).mono ?_
  rintro e w' ⟨v', rfl, ho, -, hb⟩
  exact ⟨v', rfl, SeqP.of_own ho fun b _ hb _ => hb, hb⟩
end
section
open Go.RowKit FracM
set_option maxHeartbeats 4000000 in
set_option maxRecDepth 100000 in
theorem rins_any (d : Nd) (A1 A2 A3 : Option Addr) (n1 c1 n2 c2 n3 c3 : Nat) (w : World) :
  Calls Tryz.prog 31 #[.agg (ndC d (.slice A1 n1 c1) (.slice A2 n2 c2) (.slice A3 n3 c3))] w (RetB (.agg (insC d (.slice A1 n1 c1) (.slice A2 n2 c2))) w) := by
 go_enter Tryz.func31, Tryz.ntmps31
 go_wp2_with fail
 exact bodyPost_ret (v := .agg (insC d (.slice A1 n1 c1) (.slice A2 n2 c2))) (by simp [results, Tryz.results31, go_sem]) rfl ⟨rfl, bel2 _ _ _⟩
set_option maxHeartbeats 4000000 in
set_option maxRecDepth 100000 in
theorem rnode_any (d : Nd) (A1 A2 : Option Addr) (n1 c1 n2 c2 : Nat) (w : World) :
  Calls Tryz.prog 22 #[.agg (insC d (.slice A1 n1 c1) (.slice A2 n2 c2))] w (RetB (.agg (ndC d (.slice A1 n1 c1) (.slice A2 n2 c2) (.slice none 0 0))) w) := by
 go_enter Tryz.func22, Tryz.ntmps22
 go_wp2_with fail
 exact bodyPost_ret (v := .agg (ndC d (.slice A1 n1 c1) (.slice A2 n2 c2) (.slice none 0 0))) (by simp [results, Tryz.results22, go_sem]) rfl ⟨rfl, bel2 _ _ _⟩
end
section
open Go.RowKit FracM
theorem flat_take {α : Type} (f : α → List Value) (size : Nat) (hf : ∀ x, (f x).length = size) : ∀ (l : List α) (k : Nat), (l.flatMap f).take (k * size) = (l.take k).flatMap f := by
 intro l
 induction l with
 | nil => intro k; simp
 | cons x r ih =>
  intro k
  cases k with
  | zero => simp
  | succ k =>
   rw [List.flatMap_cons, List.take_succ_cons, List.flatMap_cons, List.take_append, hf, ← ih k, show (k + 1) * size - size = k * size by rw [Nat.succ_mul]; omega, List.take_of_length_le (by rw [hf, Nat.succ_mul]; omega)]
theorem flat_drop {α : Type} (f : α → List Value) (size : Nat) (hf : ∀ x, (f x).length = size) : ∀ (l : List α) (k : Nat), (l.flatMap f).drop (k * size) = (l.drop k).flatMap f := by
 intro l
 induction l with
 | nil => intro k; simp
 | cons x r ih =>
  intro k
  cases k with
  | zero => simp
  | succ k =>
   rw [List.flatMap_cons, List.drop_succ_cons, List.drop_append, hf, ← ih k, show (k + 1) * size - size = k * size by rw [Nat.succ_mul]; omega, List.drop_eq_nil_of_le (by rw [hf, Nat.succ_mul]; omega), List.nil_append]
theorem zip_take {α β : Type} : ∀ (l : List α) (m : List β) (k : Nat), (l.zip m).take k = (l.take k).zip (m.take k) := by
 intro l
 induction l with
 | nil => intro m k; simp
 | cons x r ih => intro m k; cases m with
  | nil => simp
  | cons y s => cases k with
   | zero => simp
   | succ k => simp [ih]
theorem zip_drop {α β : Type} : ∀ (l : List α) (m : List β) (k : Nat), (l.zip m).drop k = (l.drop k).zip (m.drop k) := by
 intro l
 induction l with
 | nil => intro m k; simp
 | cons x r ih => intro m k; cases m with
  | nil => simp
  | cons y s => cases k with
   | zero => simp
   | succ k => simp [ih]
/-- the first elements of a row of its own -/
theorem own_take {w : World} {B t size n c : Nat} {A : Option Addr} {xs : List Value} (h : w.ownsRow B t size (.slice A n c) n xs) (k : Nat) (hk : k ≤ n) : w.ownsRow B t size (.slice A k c) k (xs.take (k * size)) := by
 obtain ⟨h1, h2⟩ := h
 have hle : k * size ≤ n * size := Nat.mul_le_mul_right _ hk
 rcases h2 with ⟨hv, h0⟩ | ⟨g, cap, cur, hv, hg, hh, hn, hcap, hsz, htake⟩
 ·cases hv
  obtain rfl : k = 0 := by omega
  exact ⟨by simp, .inl ⟨rfl, rfl⟩⟩
 ·cases hv
  refine ⟨by rw [List.length_take, h1]; omega, .inr ⟨g, _, cur, rfl, hg, hh, by omega, hcap, hsz, ?_⟩⟩
  rw [← htake, List.take_take, Nat.min_eq_left hle]
/-- the stack -/
structure StackC (w : World) (B : Nat) (X : Nat → Prop) (v : Value) (l : List Tree) (cs : List Sl) : Prop where
 own : w.ownsRow B 35 11 v l.length ((l.zip cs).flatMap ndL)
 len : cs.length = l.length
 at_ : ∀ (i : Nat) (u : Tree) (c : Sl), l[i]? = some u → cs[i]? = some c → TreeAt w (fun b _ => X b ∧ v.ownBlock ≠ some b) u c
theorem StackC.nil (w : World) (B : Nat) (X : Nat → Prop) : StackC w B X (.slice none 0 0) [] [] := ⟨World.ownsRow_nil _ _ _ _, rfl, fun i u c h => by simp at h⟩
theorem ndL_len (x : Tree × Sl) : (ndL x).length = 11 := rfl
theorem StackC.keep {w w' : World} {B : Nat} {X : Nat → Prop} {v : Value} {l : List Tree} {cs : List Sl} (h : StackC w B X v l cs) (hb : Below w.heap.size w w') : StackC w' B X v l cs := by
 refine ⟨?_, h.len, fun i u c h1 h2 => (h.at_ i u c h1 h2).belo hb⟩
 exact h.own.kept ⟨hb.os, hb.tape, hb.output, hb.size, fun k hk _ => hb.block k hk⟩ (row := none) (by cases hv : v.ownBlock <;> simp)
theorem StackC.take {w : World} {B n c : Nat} {X : Nat → Prop} {A : Option Addr} {l : List Tree} {cs : List Sl} (h : StackC w B X (.slice A n c) l cs) (k : Nat) (hk : k ≤ l.length) (hn : n = l.length) : StackC w B X (.slice A k c) (l.take k) (cs.take k) := by
 subst hn
 refine ⟨?_, by rw [List.length_take, List.length_take, h.len], fun i u c' h1 h2 => ?_⟩
 ·have := own_take h.own k hk
  rw [flat_take ndL 11 ndL_len, zip_take] at this
  rw [List.length_take, Nat.min_eq_left hk]
  exact this
 ·have hi : i < k := by
   have := (List.getElem?_eq_some_iff.1 h1).1
   rw [List.length_take] at this
   omega
  rw [List.getElem?_take_of_lt hi] at h1 h2
  exact (h.at_ i u c' h1 h2).mono fun b e _ hp => ⟨hp.1, by cases A <;> exact hp.2⟩
/-- an expression pushed -/
theorem StackC.push {w w' : World} {B g cap : Nat} {X : Nat → Prop} {v : Value} {l : List Tree} {cs : List Sl} {u : Tree} {c : Sl} (h : StackC w B X v l cs) (hT : TreeAt w (fun b _ => X b ∧ v.ownBlock ≠ some b) u c) (hg : w.grownBy w' v.ownBlock)
  (hat : v.ownBlock = some g ∨ g = w.heap.size) (hown : w'.ownsRow B 35 11 (.slice (some ⟨g, 0, none⟩) (l.length + 1) cap) (l.length + 1) ((l.zip cs).flatMap ndL ++ ndL (u, c))) :
  StackC w' B X (.slice (some ⟨g, 0, none⟩) (l.length + 1) cap) (l ++ [u]) (cs ++ [c]) := by
 have key : ∀ (y : Tree) (s : Sl), TreeAt w (fun b _ => X b ∧ v.ownBlock ≠ some b) y s → TreeAt w' (fun b _ => X b ∧ (Value.slice (some ⟨g, 0, none⟩) (l.length + 1) cap).ownBlock ≠ some b) y s := fun y s hy => by
  have h1 : TreeAt w (fun b _ => (X b ∧ v.ownBlock ≠ some b) ∧ b < w.heap.size) y s := hy.mono fun b e hb hp => ⟨hp, hb⟩
  refine (h1.keep ⟨hg.size, fun b e o hp hb _ => World.cell?_of_block (a := ⟨b, o, none⟩) (hg.block b hb (fun he => hp.1.2 he.symm))⟩).mono fun b e _ hp => ⟨hp.1.1, fun he => ?_⟩
  simp only [Value.ownBlock, Option.some.injEq] at he
  subst he
  rcases hat with h2 | h2
  ·exact hp.1.2 h2
  ·have := hp.2; omega
 refine ⟨?_, by simp [h.len], fun i y s h1 h2 => ?_⟩
 ·rw [List.zip_append h.len.symm, List.flatMap_append, List.length_append]
  simpa using hown
 ·rcases Nat.lt_or_ge i l.length with hi | hi
  ·rw [List.getElem?_append_left hi] at h1
   rw [List.getElem?_append_left (by rw [h.len]; exact hi)] at h2
   exact key y s (h.at_ i y s h1 h2)
  ·rw [List.getElem?_append_right hi] at h1
   rw [List.getElem?_append_right (by rw [h.len]; exact hi), h.len] at h2
   cases hk : i - l.length with
   | zero => rw [hk] at h1 h2; simp at h1 h2; subst h1 h2; exact key u c hT
   | succ k => rw [hk] at h1; simp at h1
/-- the cells of the topmost expressions -/
theorem StackC.cells {w : World} {B g n c : Nat} {X : Nat → Prop} {l : List Tree} {cs : List Sl} (h : StackC w B X (.slice (some ⟨g, 0, none⟩) n c) l cs) (k : Nat) : ∀ (j : Nat) (u : Value), (((l.drop k).zip (cs.drop k)).flatMap ndL)[j]? = some u → w.cell? ⟨g, k * 11 + j, none⟩ = some u := by
 intro j u hu
 rw [← zip_drop, ← flat_drop ndL 11 ndL_len, List.getElem?_drop] at hu
 have := h.own.cells rfl (k * 11 + j) u hu
 have e : (⟨g, 0, none⟩ : Addr).add (k * 11 + j) = ⟨g, k * 11 + j, none⟩ := by
  unfold Addr.add
  split
  ·next h0 => rw [h0]
  ·simp
 rwa [e] at this
/-- a node over the topmost expressions -/
theorem StackC.node {w : World} {B : Nat} {X : Nat → Prop} {v mv bv kv : Value} {l : List Tree} {cs : List Sl} (h : StackC w B X v l cs) (k : Nat) (hk : k ≤ l.length) {d : Nd} (hd : NdOk d)
  (hm : SeqP w (fun b _ => X b ∧ v.ownBlock ≠ some b) 3 mv d.ms.length (d.ms.flatMap matCells)) (hb : SeqP w (fun b _ => X b ∧ v.ownBlock ≠ some b) 1 bv d.bys.length (d.bys.map Value.string))
  (hkv : SeqP w (fun b _ => X b ∧ v.ownBlock ≠ some b) 11 kv (l.length - k) (((l.drop k).zip (cs.drop k)).flatMap ndL)) : TreeAt w (fun b _ => X b ∧ v.ownBlock ≠ some b) (.node d (l.drop k)) (mv, bv, kv) := by
 refine .mk d (l.drop k) mv bv kv (cs.drop k) hd hm hb (by rw [List.length_drop, List.length_drop, h.len]) (by rw [List.length_drop]; exact hkv) fun i u c h1 h2 => ?_
 rw [List.getElem?_drop] at h1 h2
 exact h.at_ (k + i) u c h1 h2
end
section
open Go.RowKit FracM
def popsZ (k : Int) : Int := if k = 0 ∨ k = 1 then 0 else if k = 2 then 1 else if k = 3 then 2 else -1
set_option maxHeartbeats 4000000 in
theorem pops_any (k : Int) (w : World) : Calls Tryz.prog 53 #[.int .i64 k] w fun e w' => e = .returned (.int .i64 (popsZ k)) ∧ w' = w := by
 obtain ⟨r, hr⟩ : ∃ r, popsZ k = r := ⟨_, rfl⟩
 have HR := Box.mk hr
 rw [hr]
 clear hr
 by_cases h0 : k = 0
 ·subst h0
  go_enter Tryz.func53, Tryz.ntmps53
  go_wp2_with fail
  go_ret
  exact ⟨by rw [← HR.out]; rfl, rfl⟩
 by_cases h1 : k = 1
 ·subst h1
  go_enter Tryz.func53, Tryz.ntmps53
  go_wp2_with fail
  go_ret
  exact ⟨by rw [← HR.out]; rfl, rfl⟩
 by_cases h2 : k = 2
 ·subst h2
  go_enter Tryz.func53, Tryz.ntmps53
  go_wp2_with fail
  go_ret
  exact ⟨by rw [← HR.out]; rfl, rfl⟩
 by_cases h3 : k = 3
 ·subst h3
  go_enter Tryz.func53, Tryz.ntmps53
  go_wp2_with fail
  go_ret
  exact ⟨by rw [← HR.out]; rfl, rfl⟩
 have e0 : (k == 0) = false := by simpa using h0
 have e1 : (k == 1) = false := by simpa using h1
 have e2 : (k == 2) = false := by simpa using h2
 have e3 : (k == 3) = false := by simpa using h3
 have HE : Box (r = -1) := ⟨by rw [← HR.out]; unfold popsZ; rw [if_neg (by omega), if_neg h2, if_neg h3]⟩
 clear h0 h1 h2 h3 HR
 go_enter Tryz.func53, Tryz.ntmps53
 go_wp2_with fail
 go_ret
 exact ⟨by rw [HE.out]; rfl, rfl⟩
end
end Go.Proofs.YtpgdijbfkahepaaGreatDoor
