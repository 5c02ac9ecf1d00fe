/- Contracts, packed: Kq Ql Ra Ul Ui. -/
import Derived.Test.YtkdojgkiclndfaaGreatDoorPx12
import Derived.Test.YtkdojgkiclndfaaGreatDoorPx13
import Derived.Test.YtkdojgkiclndfaaGreatDoorPx16
import Derived.Test.YtkdojgkiclndfaaGreatDoorPx19
import Derived.Test.YtkdojgkiclndfaaGreatDoorPx21
import Derived.Deep.DeepCutAuto
set_option linter.unusedVariables false
set_option linter.unusedSimpArgs false
namespace Go.Proofs.YtkdojgkiclndfaaGreatDoor
section
open Go.RowKit FracM
abbrev VStr (x : ByteArray) (e : Ending) (_ : World) : Prop := e = .returned (.string x)
def lastLe (l : List ByteArray) (x : ByteArray) : Bool := match l.getLast? with | none => false | some p => leS x p
set_option maxRecDepth 100000 in
set_option maxHeartbeats 2000000 in
theorem pby_any (g : Nat) (en : Int) (ts : List Tok) (w : World) (h : PS w g en ts) (bv : Value) (l : List ByteArray) (P : Nat → Nat → Prop) (hl : SeqP w P 1 bv l.length (l.map Value.string)) :
  Calls Tryz.prog 153 #[.pointer (some ⟨g, 0, none⟩), bv] w (RetX g en w (byM en l ts) VStr) := by
 obtain ⟨A, n, rfl, hn⟩ := hl.form
 by_cases ht : kindT ts 0 = true
 ·obtain ⟨t, r, rfl⟩ := kindT_cons ht
  by_cases h8 : 8 ≤ l.length
  ·have hm : byM en l (t :: r) = bad en (t :: r) 4 := by unfold byM; rw [if_pos ht, if_pos h8]
   have h8' : (8 : Int) ≤ (l.length : Int) := by omega
   rw [hm]
   clear hm
   go_enter Tryz.func153, Tryz.ntmps153
   go_wp2_with fail
   refine (pkind_any g en 0 _ w h).mono ?_
   rintro e w1 ⟨rfl, rfl⟩
   rw [ht]
   go_wp2_with fail
   refine (pfail_any g en 4 _ _ h).mono ?_
   rintro e w1 ⟨rfl, rfl⟩
   go_wp2_with fail
   exact ⟨rfl, Only.of_below (Below.refl _ _), rfl⟩
  ·have h8' : ¬ (8 : Int) ≤ (l.length : Int) := by omega
   obtain ⟨b, off, c, hb, hlt, hne, h1, h2, t0, t1, t2, t3, hr⟩ := h.cons
   obtain ⟨c0, c1⟩ := hb.c2
   have hz : (0 : Int) < ((r.length + 1 : Nat) : Int) := by omega
   have hm : byM en l (t :: r) = if lastLe l (bsL t.text) then bad en (t :: r) 8 else .ok (bsL t.text, r) := by unfold byM lastLe; rw [if_pos ht, if_neg h8]; rfl
   have hfd := tok_f1 (.int .i64 t.kind) (.string (bsL t.text)) (.int .i64 t.n) (.int .i64 (t.off : Int))
   rw [hm]
   clear hm hb hr
   rcases Nat.eq_zero_or_pos l.length with h0 | h0
   ·obtain rfl : l = [] := List.eq_nil_of_length_eq_zero h0
    rw [if_neg (by simp [lastLe])]
    go_enter Tryz.func153, Tryz.ntmps153
    go_upto_region 5 with (go_at_call 137; refine (pkind_any g en 0 _ w h).mono ?_; rintro e w1 ⟨rfl, rfl⟩; rw [ht])
    go_quiet (fail)
    go_wp2_with fail
    refine (ptake_any g en t r _ (h.drewN nq)).mono ?_
    rintro e w1 ⟨rfl, hp, ho⟩
    have HP := Box.mk (And.intro hp ho)
    clear hp ho c0 c1 t0 t1 t2 t3 hz ht h h1 h2 hlt hne
    go_wp2_with fail
    go_ret
    exact ⟨(Only.of_below (below_drewN w nq)).trans HP.out.2, HP.out.1, rfl⟩
   ·obtain ⟨k, hk⟩ : ∃ k, l.length = k + 1 := ⟨l.length - 1, by omega⟩
    obtain ⟨y, hy⟩ : ∃ y, l[k]? = some y := ⟨l[k]'(by omega), List.getElem?_eq_getElem _⟩
    obtain ⟨b', off', rfl, hb', m1⟩ := hl.at1 k (.string y) (by simp [hy])
    have HL : Box (lastLe l (bsL t.text) = leS (bsL t.text) y) := ⟨by unfold lastLe; rw [List.getLast?_eq_getElem?, hk, Nat.add_sub_cancel, hy]⟩
    rw [HL.out]
    rw [hk] at h8' ⊢
    have hj : 0 < ((k + 1 : Nat) : Int) := by omega
    have hj1 : IntKind.i64.wrap (((k + 1 : Nat) : Int) - 1) = (k : Int) := by rw [show ((k + 1 : Nat) : Int) - 1 = (k : Int) by omega]; exact W64_in (by omega) (by omega)
    have hj2 : (k : Int) < ((k + 1 : Nat) : Int) := by omega
    clear hl hy h0 hk h8 HL
    cases hq : leS (bsL t.text) y
    ·have q : (Op.bytesLess (bsL t.text).toList y.toList || (bsL t.text).toList == y.toList) = false := hq
     rw [if_neg Bool.false_ne_true]
     clear hq
     go_enter Tryz.func153, Tryz.ntmps153
     go_upto_region 5 with (go_at_call 137; refine (pkind_any g en 0 _ w h).mono ?_; rintro e w1 ⟨rfl, rfl⟩; rw [ht])
     go_quiet (fail)
     have hps := h.drewN nq
     have hon : Only g w (w.drewN nq) := Only.of_below (below_drewN w nq)
     clear h c0 c1 t0 t1 t2 t3 m1
     generalize w.drewN nq = W at *
     go_wp2_with fail
     refine (ptake_any g en t r _ hps).mono ?_
     rintro e w1 ⟨rfl, hp, ho⟩
     have HP := Box.mk (And.intro hp (hon.trans ho))
     clear hp ho hz ht hps hon h1 h2 hlt hne
     go_wp2_with fail
     go_ret
     exact ⟨HP.out.2, HP.out.1, rfl⟩
    ·have q : (Op.bytesLess (bsL t.text).toList y.toList || (bsL t.text).toList == y.toList) = true := hq
     rw [if_pos rfl]
     clear hq
     go_enter Tryz.func153, Tryz.ntmps153
     go_upto_region 5 with (go_at_call 137; refine (pkind_any g en 0 _ w h).mono ?_; rintro e w1 ⟨rfl, rfl⟩; rw [ht])
     go_quiet (fail)
     have hps := h.drewN nq
     have hon : Only g w (w.drewN nq) := Only.of_below (below_drewN w nq)
     clear h c0 c1 t0 t1 t2 t3 m1
     generalize w.drewN nq = W at *
     go_wp2_with fail
     refine (pfail_any g en 8 _ _ hps).mono ?_
     rintro e w1 ⟨rfl, rfl⟩
     go_wp2_with fail
     exact ⟨rfl, hon, rfl⟩
 ·have hm : byM en l ts = bad en ts 2 := by unfold byM; rw [if_neg ht]
  rw [hm]
  have ht2 : kindT ts 0 = false := by simpa using ht
  clear hm
  go_enter Tryz.func153, Tryz.ntmps153
  go_wp2_with fail
  refine (pkind_any g en 0 _ w h).mono ?_
  rintro e w1 ⟨rfl, rfl⟩
  rw [ht2]
  go_wp2_with fail
  refine (pfail_any g en 2 ts _ h).mono ?_
  rintro e w1 ⟨rfl, rfl⟩
  go_wp2_with fail
  exact ⟨rfl, Only.of_below (Below.refl _ _), rfl⟩
end
section
open Go.RowKit FracM
end
section
open Go.RowKit FracM
end
section
open Go.Shelf Go.RowKit Go.Lib
theorem mats_one (l : List Mat) : ∀ u ∈ l.flatMap matCells, u.oneCell' = true := by
 intro u hu
 obtain ⟨m, -, hm⟩ := List.mem_flatMap.1 hu
 simp only [matCells, List.mem_cons, List.not_mem_nil, or_false] at hm
 rcases hm with rfl | rfl | rfl <;> rfl
theorem strs_one (l : List ByteArray) : ∀ u ∈ l.map Value.string, u.oneCell' = true := by
 intro u hu
 obtain ⟨m, -, rfl⟩ := List.mem_map.1 hu
 rfl
def cloneM_ren : Ren := ⟨fun | 41 => 42 | n => n, fun | 22 => 29 | 23 => 86 | 4 => 4 | n => n, fun | n => n⟩
theorem cloneM_lays : SlLaysE0.n41 Tryz.prog cloneM_ren := {
 mixed := by kernel_rfl
 f41 := ⟨Tryz.f42.name, by decide, Tryz.func42.trans (congrArg some (by kernel_rfl))⟩
 t4 := Tryz.underlying4
 a4 := Tryz.isAgg4
 z4 := Tryz.sizeOf4
 v4 := Tryz.zeroValue4
 t22 := Tryz.underlying29
 a22 := Tryz.isAgg29
 z22 := Tryz.sizeOf29
 v22 := Tryz.zeroValue29 }
def cloneS_ren : Ren := ⟨fun | 41 => 43 | n => n, fun | 22 => 30 | 23 => 9 | 4 => 4 | n => n, fun | n => n⟩
theorem cloneS_lays : SlLaysE0.n41 Tryz.prog cloneS_ren := {
 mixed := by kernel_rfl
 f41 := ⟨Tryz.f43.name, by decide, Tryz.func43.trans (congrArg some (by kernel_rfl))⟩
 t4 := Tryz.underlying4
 a4 := Tryz.isAgg4
 z4 := Tryz.sizeOf4
 v4 := Tryz.zeroValue4
 t22 := Tryz.underlying30
 a22 := Tryz.isAgg30
 z22 := Tryz.sizeOf30
 v22 := Tryz.zeroValue30 }
def cloneE_ren : Ren := ⟨fun | 41 => 86 | n => n, fun | 22 => 31 | 23 => 33 | 4 => 4 | n => n, fun | n => n⟩
theorem cloneE_lays : SlLaysE0.n41 Tryz.prog cloneE_ren := {
 mixed := by kernel_rfl
 f41 := ⟨Tryz.f86.name, by decide, Tryz.func86.trans (congrArg some (by kernel_rfl))⟩
 t4 := Tryz.underlying4
 a4 := Tryz.isAgg4
 z4 := Tryz.sizeOf4
 v4 := Tryz.zeroValue4
 t22 := Tryz.underlying31
 a22 := Tryz.isAgg31
 z22 := Tryz.sizeOf31
 v22 := Tryz.zeroValue31 }
end
section
open Go.RowKit FracM
theorem flat_take {α : Type} (f : α → List Value) (size : Nat) (hf : ∀ x, (f x).length = size) : ∀ (l : List α) (k : Nat), (l.flatMap f).take (k * size) = (l.take k).flatMap f := by
 intro l
 induction l with
 | nil => intro k; simp
 | cons x r ih =>
  intro k
  cases k with
  | zero => simp
  | succ k =>
   rw [List.flatMap_cons, List.take_succ_cons, List.flatMap_cons, List.take_append, hf, ← ih k, show (k + 1) * size - size = k * size by rw [Nat.succ_mul]; omega, List.take_of_length_le (by rw [hf, Nat.succ_mul]; omega)]
theorem flat_drop {α : Type} (f : α → List Value) (size : Nat) (hf : ∀ x, (f x).length = size) : ∀ (l : List α) (k : Nat), (l.flatMap f).drop (k * size) = (l.drop k).flatMap f := by
 intro l
 induction l with
 | nil => intro k; simp
 | cons x r ih =>
  intro k
  cases k with
  | zero => simp
  | succ k =>
   rw [List.flatMap_cons, List.drop_succ_cons, List.drop_append, hf, ← ih k, show (k + 1) * size - size = k * size by rw [Nat.succ_mul]; omega, List.drop_eq_nil_of_le (by rw [hf, Nat.succ_mul]; omega), List.nil_append]
theorem zip_take {α β : Type} : ∀ (l : List α) (m : List β) (k : Nat), (l.zip m).take k = (l.take k).zip (m.take k) := by
 intro l
 induction l with
 | nil => intro m k; simp
 | cons x r ih => intro m k; cases m with
  | nil => simp
  | cons y s => cases k with
   | zero => simp
   | succ k => simp [ih]
theorem zip_drop {α β : Type} : ∀ (l : List α) (m : List β) (k : Nat), (l.zip m).drop k = (l.drop k).zip (m.drop k) := by
 intro l
 induction l with
 | nil => intro m k; simp
 | cons x r ih => intro m k; cases m with
  | nil => simp
  | cons y s => cases k with
   | zero => simp
   | succ k => simp [ih]
/-- the first elements of a row of its own -/
theorem own_take {w : World} {B t size n c : Nat} {A : Option Addr} {xs : List Value} (h : w.ownsRow B t size (.slice A n c) n xs) (k : Nat) (hk : k ≤ n) : w.ownsRow B t size (.slice A k c) k (xs.take (k * size)) := by
 obtain ⟨h1, h2⟩ := h
 have hle : k * size ≤ n * size := Nat.mul_le_mul_right _ hk
 rcases h2 with ⟨hv, h0⟩ | ⟨g, cap, cur, hv, hg, hh, hn, hcap, hsz, htake⟩
 ·cases hv
  obtain rfl : k = 0 := by omega
  exact ⟨by simp, .inl ⟨rfl, rfl⟩⟩
 ·cases hv
  refine ⟨by rw [List.length_take, h1]; omega, .inr ⟨g, _, cur, rfl, hg, hh, by omega, hcap, hsz, ?_⟩⟩
  rw [← htake, List.take_take, Nat.min_eq_left hle]
/-- the stack -/
structure StackC (w : World) (B : Nat) (X : Nat → Prop) (v : Value) (l : List Tree) (cs : List Sl) : Prop where
 own : w.ownsRow B 33 11 v l.length ((l.zip cs).flatMap ndL)
 len : cs.length = l.length
 at_ : ∀ (i : Nat) (u : Tree) (c : Sl), l[i]? = some u → cs[i]? = some c → TreeAt w (fun b _ => X b ∧ v.ownBlock ≠ some b) u c
theorem StackC.nil (w : World) (B : Nat) (X : Nat → Prop) : StackC w B X (.slice none 0 0) [] [] := ⟨World.ownsRow_nil _ _ _ _, rfl, fun i u c h => by simp at h⟩
theorem ndL_len (x : Tree × Sl) : (ndL x).length = 11 := rfl
theorem StackC.keep {w w' : World} {B : Nat} {X : Nat → Prop} {v : Value} {l : List Tree} {cs : List Sl} (h : StackC w B X v l cs) (hb : Below w.heap.size w w') : StackC w' B X v l cs := by
 refine ⟨?_, h.len, fun i u c h1 h2 => (h.at_ i u c h1 h2).belo hb⟩
 exact h.own.kept ⟨hb.os, hb.tape, hb.output, hb.size, fun k hk _ => hb.block k hk⟩ (row := none) (by cases hv : v.ownBlock <;> simp)
theorem StackC.take {w : World} {B n c : Nat} {X : Nat → Prop} {A : Option Addr} {l : List Tree} {cs : List Sl} (h : StackC w B X (.slice A n c) l cs) (k : Nat) (hk : k ≤ l.length) (hn : n = l.length) : StackC w B X (.slice A k c) (l.take k) (cs.take k) := by
 subst hn
 refine ⟨?_, by rw [List.length_take, List.length_take, h.len], fun i u c' h1 h2 => ?_⟩
 ·have := own_take h.own k hk
  rw [flat_take ndL 11 ndL_len, zip_take] at this
  rw [List.length_take, Nat.min_eq_left hk]
  exact this
 ·have hi : i < k := by
   have := (List.getElem?_eq_some_iff.1 h1).1
   rw [List.length_take] at this
   omega
  rw [List.getElem?_take_of_lt hi] at h1 h2
  exact (h.at_ i u c' h1 h2).mono fun b e _ hp => ⟨hp.1, by cases A <;> exact hp.2⟩
/-- an expression pushed -/
theorem StackC.push {w w' : World} {B g cap : Nat} {X : Nat → Prop} {v : Value} {l : List Tree} {cs : List Sl} {u : Tree} {c : Sl} (h : StackC w B X v l cs) (hT : TreeAt w (fun b _ => X b ∧ v.ownBlock ≠ some b) u c) (hg : w.grownBy w' v.ownBlock)
  (hat : v.ownBlock = some g ∨ g = w.heap.size) (hown : w'.ownsRow B 33 11 (.slice (some ⟨g, 0, none⟩) (l.length + 1) cap) (l.length + 1) ((l.zip cs).flatMap ndL ++ ndL (u, c))) :
  StackC w' B X (.slice (some ⟨g, 0, none⟩) (l.length + 1) cap) (l ++ [u]) (cs ++ [c]) := by
 have key : ∀ (y : Tree) (s : Sl), TreeAt w (fun b _ => X b ∧ v.ownBlock ≠ some b) y s → TreeAt w' (fun b _ => X b ∧ (Value.slice (some ⟨g, 0, none⟩) (l.length + 1) cap).ownBlock ≠ some b) y s := fun y s hy => by
  have h1 : TreeAt w (fun b _ => (X b ∧ v.ownBlock ≠ some b) ∧ b < w.heap.size) y s := hy.mono fun b e hb hp => ⟨hp, hb⟩
  refine (h1.keep ⟨hg.size, fun b e o hp hb _ => World.cell?_of_block (a := ⟨b, o, none⟩) (hg.block b hb (fun he => hp.1.2 he.symm))⟩).mono fun b e _ hp => ⟨hp.1.1, fun he => ?_⟩
  simp only [Value.ownBlock, Option.some.injEq] at he
  subst he
  rcases hat with h2 | h2
  ·exact hp.1.2 h2
  ·have := hp.2; omega
 refine ⟨?_, by simp [h.len], fun i y s h1 h2 => ?_⟩
 ·rw [List.zip_append h.len.symm, List.flatMap_append, List.length_append]
  simpa using hown
 ·rcases Nat.lt_or_ge i l.length with hi | hi
  ·rw [List.getElem?_append_left hi] at h1
   rw [List.getElem?_append_left (by rw [h.len]; exact hi)] at h2
   exact key y s (h.at_ i y s h1 h2)
  ·rw [List.getElem?_append_right hi] at h1
   rw [List.getElem?_append_right (by rw [h.len]; exact hi), h.len] at h2
   cases hk : i - l.length with
   | zero => rw [hk] at h1 h2; simp at h1 h2; subst h1 h2; exact key u c hT
   | succ k => rw [hk] at h1; simp at h1
/-- the cells of the topmost expressions -/
theorem StackC.cells {w : World} {B g n c : Nat} {X : Nat → Prop} {l : List Tree} {cs : List Sl} (h : StackC w B X (.slice (some ⟨g, 0, none⟩) n c) l cs) (k : Nat) : ∀ (j : Nat) (u : Value), (((l.drop k).zip (cs.drop k)).flatMap ndL)[j]? = some u → w.cell? ⟨g, k * 11 + j, none⟩ = some u := by
 intro j u hu
 rw [← zip_drop, ← flat_drop ndL 11 ndL_len, List.getElem?_drop] at hu
 have := h.own.cells rfl (k * 11 + j) u hu
 have e : (⟨g, 0, none⟩ : Addr).add (k * 11 + j) = ⟨g, k * 11 + j, none⟩ := by
  unfold Addr.add
  split
  ·next h0 => rw [h0]
  ·simp
 rwa [e] at this
/-- a node over the topmost expressions -/
theorem StackC.node {w : World} {B : Nat} {X : Nat → Prop} {v mv bv kv : Value} {l : List Tree} {cs : List Sl} (h : StackC w B X v l cs) (k : Nat) (hk : k ≤ l.length) {d : Nd} (hd : NdOk d)
  (hm : SeqP w (fun b _ => X b ∧ v.ownBlock ≠ some b) 3 mv d.ms.length (d.ms.flatMap matCells)) (hb : SeqP w (fun b _ => X b ∧ v.ownBlock ≠ some b) 1 bv d.bys.length (d.bys.map Value.string))
  (hkv : SeqP w (fun b _ => X b ∧ v.ownBlock ≠ some b) 11 kv (l.length - k) (((l.drop k).zip (cs.drop k)).flatMap ndL)) : TreeAt w (fun b _ => X b ∧ v.ownBlock ≠ some b) (.node d (l.drop k)) (mv, bv, kv) := by
 refine .mk d (l.drop k) mv bv kv (cs.drop k) hd hm hb (by rw [List.length_drop, List.length_drop, h.len]) (by rw [List.length_drop]; exact hkv) fun i u c h1 h2 => ?_
 rw [List.getElem?_drop] at h1 h2
 exact h.at_ (k + i) u c h1 h2
end
end Go.Proofs.YtkdojgkiclndfaaGreatDoor
