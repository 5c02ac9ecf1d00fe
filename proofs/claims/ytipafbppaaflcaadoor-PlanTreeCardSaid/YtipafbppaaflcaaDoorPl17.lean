/- Contracts, packed: Kp Kq Qk Ql Zb Zc Ra Uj Ul Uo Un. -/
import Derived.Test.YtipafbppaaflcaaDoorPl1
import Derived.Test.YtipafbppaaflcaaDoorPl10
import Derived.Test.YtipafbppaaflcaaDoorPl11
import Derived.Test.YtipafbppaaflcaaDoorPl12
import Derived.Test.YtipafbppaaflcaaDoorPl13
import Derived.Test.YtipafbppaaflcaaDoorPl16
import Derived.Laws.Concat
import Derived.Deep.DeepCutAuto
import Derived.Shelf.SlicesE.Clone
set_option linter.unusedVariables false
set_option linter.unusedSimpArgs false
namespace Go.Proofs.YtipafbppaaflcaaDoor
section
open Go.RowKit FracM
/-- the words of a variable, in its cells -/
def WordsAt (w : World) (g : Nat) (l : List (List UInt8)) : Prop := g < w.heap.size ∧ ∀ (k : Nat) (x : List UInt8), l[k]? = some x → w.cell? ⟨g, k, none⟩ = some (.string (bsL x))
theorem WordsAt.below {w w' : World} {g : Nat} {l : List (List UInt8)} (h : WordsAt w g l) (hb : Below w.heap.size w w') : WordsAt w' g l := ⟨Nat.lt_of_lt_of_le h.1 hb.size, fun k x hx => (hb.cell h.1).trans (h.2 k x hx)⟩
theorem WordsAt.only {w w' : World} {g q : Nat} {l : List (List UInt8)} (h : WordsAt w g l) (hb : Only q w w') (hq : g ≠ q) : WordsAt w' g l := ⟨Nat.lt_of_lt_of_le h.1 hb.size, fun k x hx => (World.cell?_of_block (a := ⟨g, k, none⟩) (hb.block g h.1 hq)).trans (h.2 k x hx)⟩
/-- a block behind the variables -/
def Far (p : Nat) : Prop := 1 < p ∧ 3 < p ∧ 2 < p ∧ 0 < p
theorem Far.le {p q : Nat} (h : Far p) (k : p ≤ q) : Far q := ⟨Nat.lt_of_lt_of_le h.1 k, Nat.lt_of_lt_of_le h.2.1 k, Nat.lt_of_lt_of_le h.2.2.1 k, Nat.lt_of_lt_of_le h.2.2.2 k⟩
/-- all variables of the parser; q: the block of the parser's state -/
structure WordsP (w : World) (q : Nat) : Prop where
 grp : WordsAt w 1 groupsT
 fn : WordsAt w 3 funcsT
 mat : WordsAt w 2 matchT
 opr : WordsAt w 0 opersT
 far : Far q
theorem WordsP.below {w w' : World} {q : Nat} (h : WordsP w q) (hb : Below w.heap.size w w') : WordsP w' q := ⟨h.grp.below hb, h.fn.below hb, h.mat.below hb, h.opr.below hb, h.far⟩
theorem WordsP.only {w w' : World} {q p : Nat} (h : WordsP w q) (hb : Only p w w') (hp : Far p) : WordsP w' q :=
 ⟨h.grp.only hb (Nat.ne_of_lt hp.1), h.fn.only hb (Nat.ne_of_lt hp.2.1), h.mat.only hb (Nat.ne_of_lt hp.2.2.1), h.opr.only hb (Nat.ne_of_lt hp.2.2.2), h.far⟩
theorem getD_map (l : List (List UInt8)) (k : Nat) : (l.map bsL).getD k ByteArray.empty = bsL (l.getD k []) := by
 rw [List.getD_eq_getElem?_getD, List.getD_eq_getElem?_getD, List.getElem?_map]
 cases l[k]? <;> rfl
theorem idx_eq (l : List (List UInt8)) (x : List UInt8) : Lib.idxOfS (l.map bsL) (bsL x) = idxT l x := by
 have ht : l.map bsL = (l.map bsL).take l.length := by rw [List.take_of_length_le (by simp)]
 rw [ht]
 unfold idxT
 cases h : l.findIdx? (fun y => y == x) with
 | none =>
  rw [List.findIdx?_eq_none_iff] at h
  refine Lib.idxOfS_miss _ _ _ fun j hj e => ?_
  rw [getD_map, bsL_inj] at e
  have := h (l[j]) (List.getElem_mem hj)
  rw [List.getD_eq_getElem?_getD, List.getElem?_eq_getElem hj] at e
  simp at e this
  exact this e
 | some i =>
  rw [List.findIdx?_eq_some_iff_getElem] at h
  obtain ⟨hi, h1, h2⟩ := h
  refine Lib.idxOfS_hit _ _ i _ hi (by simp) ?_ fun j hj e => ?_
  ·rw [getD_map, bsL_inj, List.getD_eq_getElem?_getD, List.getElem?_eq_getElem hi]
   simpa using h1
  ·rw [getD_map, bsL_inj, List.getD_eq_getElem?_getD, List.getElem?_eq_getElem (by omega)] at e
   have := h2 j hj
   simp at e this
   exact this e
theorem pindex_any (g n : Nat) (l : List (List UInt8)) (hn : n = l.length) (hl : n ≤ 100) (x : List UInt8) (w : World) (h : WordsAt w g l) :
  Calls Tryd.prog 121 #[.slice (some ⟨g, 0, none⟩) n n, .string (bsL x)] w fun e w' => e = .returned (.int .i64 (idxT l x)) ∧ w = w' := by
 subst hn
 refine (Tryd.slices_Index_string g 0 l.length l.length (l.map bsL) (bsL x) w (by simp) (by omega) (fun j hj => ?_)).mono ?_
 ·rw [getD_map, Nat.zero_add]
  simp only [List.length_map] at hj
  exact h.2 j _ (by rw [List.getD_eq_getElem?_getD, List.getElem?_eq_getElem hj]; rfl)
 ·rintro e w' ⟨rfl, rfl⟩
  refine ⟨?_, rfl⟩
  rw [List.take_of_length_le (by simp), idx_eq]
end
section
open Go.RowKit FracM
abbrev VStr (x : ByteArray) (e : Ending) (_ : World) : Prop := e = .returned (.string x)
def lastLe (l : List ByteArray) (x : ByteArray) : Bool := match l.getLast? with | none => false | some p => leS x p
set_option maxRecDepth 100000 in
set_option maxHeartbeats 2000000 in
theorem pby_any (g : Nat) (en : Int) (ts : List Tok) (w : World) (h : PS w g en ts) (bv : Value) (l : List ByteArray) (P : Nat → Nat → Prop) (hl : SeqP w P 1 bv l.length (l.map Value.string)) :
  Calls Tryd.prog 132 #[.pointer (some ⟨g, 0, none⟩), bv] w (RetX g en w (byM en l ts) VStr) := by
 obtain ⟨A, n, rfl, hn⟩ := hl.form
 by_cases ht : kindT ts 0 = true
 ·obtain ⟨t, r, rfl⟩ := kindT_cons ht
  by_cases h8 : 8 ≤ l.length
  ·have hm : byM en l (t :: r) = bad en (t :: r) 4 := by unfold byM; rw [if_pos ht, if_pos h8]
   have h8' : (8 : Int) ≤ (l.length : Int) := by omega
   rw [hm]
   clear hm
   go_enter Tryd.func132, Tryd.ntmps132
   go_wp2_with fail
   refine (pkind_any g en 0 _ w h).mono ?_
   rintro e w1 ⟨rfl, rfl⟩
   rw [ht]
   go_wp2_with fail
   refine (pfail_any g en 4 _ _ h).mono ?_
   rintro e w1 ⟨rfl, rfl⟩
   go_wp2_with fail
   exact ⟨rfl, Only.of_below (Below.refl _ _), rfl⟩
  ·have h8' : ¬ (8 : Int) ≤ (l.length : Int) := by omega
   obtain ⟨b, off, c, hb, hlt, hne, h1, h2, t0, t1, t2, t3, hr⟩ := h.cons
   obtain ⟨c0, c1⟩ := hb.c2
   have hz : (0 : Int) < ((r.length + 1 : Nat) : Int) := by omega
   have hm : byM en l (t :: r) = if lastLe l (bsL t.text) then bad en (t :: r) 8 else .ok (bsL t.text, r) := by unfold byM lastLe; rw [if_pos ht, if_neg h8]; rfl
   have hfd := tok_f1 (.int .i64 t.kind) (.string (bsL t.text)) (.int .i64 t.n) (.int .i64 (t.off : Int))
   rw [hm]
   clear hm hb hr
   rcases Nat.eq_zero_or_pos l.length with h0 | h0
   ·obtain rfl : l = [] := List.eq_nil_of_length_eq_zero h0
    rw [if_neg (by simp [lastLe])]
    go_enter Tryd.func132, Tryd.ntmps132
    go_upto_region 5 with (go_at_call 119; refine (pkind_any g en 0 _ w h).mono ?_; rintro e w1 ⟨rfl, rfl⟩; rw [ht])
    go_quiet (fail)
    go_wp2_with fail
    refine (ptake_any g en t r _ (h.drewN nq)).mono ?_
    rintro e w1 ⟨rfl, hp, ho⟩
    have HP := Box.mk (And.intro hp ho)
    clear hp ho c0 c1 t0 t1 t2 t3 hz ht h h1 h2 hlt hne
    go_wp2_with fail
    go_ret
    exact ⟨(Only.of_below (below_drewN w nq)).trans HP.out.2, HP.out.1, rfl⟩
   ·obtain ⟨k, hk⟩ : ∃ k, l.length = k + 1 := ⟨l.length - 1, by omega⟩
    obtain ⟨y, hy⟩ : ∃ y, l[k]? = some y := ⟨l[k]'(by omega), List.getElem?_eq_getElem _⟩
    obtain ⟨b', off', rfl, hb', m1⟩ := hl.at1 k (.string y) (by simp [hy])
    have HL : Box (lastLe l (bsL t.text) = leS (bsL t.text) y) := ⟨by unfold lastLe; rw [List.getLast?_eq_getElem?, hk, Nat.add_sub_cancel, hy]⟩
    rw [HL.out]
    rw [hk] at h8' ⊢
    have hj : 0 < ((k + 1 : Nat) : Int) := by omega
    have hj1 : IntKind.i64.wrap (((k + 1 : Nat) : Int) - 1) = (k : Int) := by rw [show ((k + 1 : Nat) : Int) - 1 = (k : Int) by omega]; exact W64_in (by omega) (by omega)
    have hj2 : (k : Int) < ((k + 1 : Nat) : Int) := by omega
    clear hl hy h0 hk h8 HL
    cases hq : leS (bsL t.text) y
    ·have q : (Op.bytesLess (bsL t.text).toList y.toList || (bsL t.text).toList == y.toList) = false := hq
     rw [if_neg Bool.false_ne_true]
     clear hq
     go_enter Tryd.func132, Tryd.ntmps132
     go_upto_region 5 with (go_at_call 119; refine (pkind_any g en 0 _ w h).mono ?_; rintro e w1 ⟨rfl, rfl⟩; rw [ht])
     go_quiet (fail)
     have hps := h.drewN nq
     have hon : Only g w (w.drewN nq) := Only.of_below (below_drewN w nq)
     clear h c0 c1 t0 t1 t2 t3 m1
     generalize w.drewN nq = W at *
     go_wp2_with fail
     refine (ptake_any g en t r _ hps).mono ?_
     rintro e w1 ⟨rfl, hp, ho⟩
     have HP := Box.mk (And.intro hp (hon.trans ho))
     clear hp ho hz ht hps hon h1 h2 hlt hne
     go_wp2_with fail
     go_ret
     exact ⟨HP.out.2, HP.out.1, rfl⟩
    ·have q : (Op.bytesLess (bsL t.text).toList y.toList || (bsL t.text).toList == y.toList) = true := hq
     rw [if_pos rfl]
     clear hq
     go_enter Tryd.func132, Tryd.ntmps132
     go_upto_region 5 with (go_at_call 119; refine (pkind_any g en 0 _ w h).mono ?_; rintro e w1 ⟨rfl, rfl⟩; rw [ht])
     go_quiet (fail)
     have hps := h.drewN nq
     have hon : Only g w (w.drewN nq) := Only.of_below (below_drewN w nq)
     clear h c0 c1 t0 t1 t2 t3 m1
     generalize w.drewN nq = W at *
     go_wp2_with fail
     refine (pfail_any g en 8 _ _ hps).mono ?_
     rintro e w1 ⟨rfl, rfl⟩
     go_wp2_with fail
     exact ⟨rfl, hon, rfl⟩
 ·have hm : byM en l ts = bad en ts 2 := by unfold byM; rw [if_neg ht]
  rw [hm]
  have ht2 : kindT ts 0 = false := by simpa using ht
  clear hm
  go_enter Tryd.func132, Tryd.ntmps132
  go_wp2_with fail
  refine (pkind_any g en 0 _ w h).mono ?_
  rintro e w1 ⟨rfl, rfl⟩
  rw [ht2]
  go_wp2_with fail
  refine (pfail_any g en 2 ts _ h).mono ?_
  rintro e w1 ⟨rfl, rfl⟩
  go_wp2_with fail
  exact ⟨rfl, Only.of_below (Below.refl _ _), rfl⟩
end
section
open Go.RowKit FracM
theorem str_beq (a b : ByteArray) : (a.toList == b.toList) = decide (a = b) := by
 rw [Bool.eq_iff_iff, beq_iff_eq, decide_eq_true_iff, ByteArray.toList_eq, ByteArray.toList_eq]
 exact ⟨fun h => ByteArray.ext (Array.toList_inj.mp h), fun h => by rw [h]⟩
def AnyP : Nat → Nat → Prop := fun _ _ => True
def StrsP (w : World) (v : Value) (l : List ByteArray) : Prop := SeqP w AnyP 1 v l.length (l.map Value.string)
theorem StrsP.below {w w' : World} {v : Value} {l : List ByteArray} (h : StrsP w v l) (hb : Below w.heap.size w w') : StrsP w' v l := h.keep (Agree.of_below hb)
end
section
open Go.RowKit FracM
def sameB : List ByteArray → List ByteArray → Bool
 | [], [] => true
 | x :: xs, y :: ys => (x.toList == y.toList) && sameB xs ys
 | _, _ => false
theorem same_eq (a b : List ByteArray) : sameB a b = decide (a = b) := by
 induction a generalizing b with
 | nil => cases b <;> simp [sameB]
 | cons x xs ih =>
  cases b with
  | nil => simp [sameB]
  | cons y ys =>
   rw [sameB, ih, str_beq, Bool.eq_iff_iff]
   simp
theorem StrsP.len {w : World} {A : Option Addr} {n c : Nat} {l : List ByteArray} (h : StrsP w (.slice A n c) l) : n = l.length ∧ n ≤ 9223372036854775807 := by
 obtain ⟨_, _, _, hv, h1, h2, _⟩ := h
 cases hv
 unfold maxLen at h2
 exact ⟨rfl, by omega⟩
theorem StrsP.at_ {w : World} {A : Option Addr} {n c : Nat} {l : List ByteArray} (h : StrsP w (.slice A n c) l) (k : Nat) (hk : k < l.length) : ∃ x b off, l[k]? = some x ∧ A = some ⟨b, off, none⟩ ∧ b < w.heap.size ∧ w.cell? ⟨b, off + k, none⟩ = some (.string x) := by
 obtain ⟨x, hx⟩ : ∃ x, l[k]? = some x := ⟨l[k], List.getElem?_eq_getElem _⟩
 obtain ⟨b, off, h1, h2, h3⟩ := SeqP.at1 h k (.string x) (by simp [hx])
 exact ⟨x, b, off, hx, h1, h2, h3⟩
theorem drop_at {α : Type} {l : List α} {k : Nat} {x : α} (hx : l[k]? = some x) : l.drop k = x :: l.drop (k + 1) := by
 obtain ⟨h1, h2⟩ := List.getElem?_eq_some_iff.1 hx
 rw [List.drop_eq_getElem_cons h1, h2]
end
section
open Go.RowKit
end
section
open Go.RowKit
end
section
open Go.RowKit FracM
end
section
open Go.Shelf Go.RowKit Go.Lib
variable {P : Program} {ρ : Ren}
set_option maxHeartbeats 2000000 in
set_option maxRecDepth 100000 in
theorem clone_zero (L : SlLaysE0.n41 P ρ) (i0 : TypeInfo) (z : Value) (size bytes : Nat) (hi : P.info? (ρ.t 23) = some i0) (hz0 : i0.zero = some z) (hz1 : i0.size = size) (hz2 : i0.bytes = bytes) (hzs : z.cells.size = size) (hsz : 0 < size)
  (z23 : ∀ w, (Go.sizeOf (ρ.t 23)).run P w = .ok size w) (a : Addr) (c : Nat) (w : World) :
  Calls P (ρ.f 41) #[.slice (some a) 0 c] w fun e w' => ∃ v', e = .returned v' ∧ w'.ownsRow w.heap.size (ρ.t 23) size v' 0 [] ∧ Below w.heap.size w w' := by
 have mixed := L.mixed; have t4 := L.t4; have a4 := L.a4; have z4 := L.z4; have v4 := L.v4; have t22 := L.t22; have a22 := L.a22; have z22 := L.z22; have v22 := L.v22
 have q22 : ∀ (w : World) (a : Option Addr) (n c n' c' : Nat), (binOp .eql (ρ.t 22) (.slice a n c) (.slice none n' c')).run P w = .ok (.bool a.isNone) w := fun w a n c n' c' => Lib.run_eql_slice_nil w _ _ a n c n' c' L.t22
 have u22 : ∀ w, Sem.run P (underlying (ρ.t 22)) w = .ok (TypeDesc.slice (ρ.t 23)) w := run_underlying t22
 obtain ⟨_, _, FG⟩ := L.f41
 go_enter FG, SlBodyN.n41_ntmps ρ
 go_wp2_with (at_builtin; refine wpList_append_own _ rfl _ _ (ρ.t 22) rfl w.heap.size (ρ.t 23) i0 z size bytes t22 hi hz0 hz1 hz2 hzs hsz _ _ _ rfl (World.ownsRow_made w #[] 0 (Nat.le_refl _) (Nat.zero_le _) (by simp)) a 0 c [] rfl ?qc1 ?qc2 ?qc3 ?qc4 ?qc5 ?qc6 ?_)
 case qc1 => simp
 case qc2 => intro j u hj; simp at hj
 case qc3 => intro u hu; cases hu
 case qc4 => exact Nat.zero_le _
 case qc5 => omega
 case qc6 => simp
 intro v' w1 hown hgrow hnil
 go_wp2
 go_ret
 refine ⟨v', rfl, by simpa using hown, ?_⟩
 exact ((Below.refl _ w).alloc (Nat.le_refl _) _).grown hgrow (by simp) (by intro k hk; simp [Value.ownBlock] at hk; omega)
/-- Clone of a slice that lies as cells -/
theorem clone_seq (L : SlLaysE0.n41 P ρ) (i0 : TypeInfo) (z : Value) (size bytes : Nat) (hi : P.info? (ρ.t 23) = some i0) (hz0 : i0.zero = some z) (hz1 : i0.size = size) (hz2 : i0.bytes = bytes) (hzs : z.cells.size = size) (hsz : 0 < size)
  (z23 : ∀ w, (Go.sizeOf (ρ.t 23)).run P w = .ok size w) {Q : Nat → Nat → Prop} {v : Value} {n : Nat} {xs : List Value} {w : World} (h : SeqP w Q size v n xs) (hbig : n * bytes ≤ 140737488355328) (h1 : ∀ u ∈ xs, u.oneCell' = true) :
  Calls P (ρ.f 41) #[v] w fun e w' => ∃ v', e = .returned v' ∧ SeqP w' (fun b _ => w.heap.size ≤ b) size v' n xs ∧ Below w.heap.size w w' := by
 obtain ⟨hl, A, c, rfl, hn, hc, hx⟩ := h
 rcases Nat.eq_zero_or_pos n with h0 | h0
 ·subst h0
  obtain rfl : xs = [] := List.eq_nil_of_length_eq_zero (by simpa using hl)
  cases A with
  | none =>
   refine (AnyE.slices_Clone_nil L 0 c w).mono ?_
   rintro e w' ⟨rfl, rfl⟩
   exact ⟨_, rfl, SeqP.nil _ _ _, Below.refl _ _⟩
  | some a =>
   refine (clone_zero L i0 z size bytes hi hz0 hz1 hz2 hzs hsz z23 a c w).mono ?_
   rintro e w' ⟨v', rfl, ho, hb⟩
   exact ⟨v', rfl, SeqP.of_own ho fun b _ hb _ => hb, hb⟩
 ·obtain ⟨b, off, rfl, hb, hp, hcell⟩ := hx h0
  refine (AnyE.slices_Clone L i0 z size bytes hi hz0 hz1 hz2 hzs hsz z23 b off n c xs w hl (by omega) hbig hcell h1).mono ?_
  rintro e w' ⟨v', rfl, ho, -, hb⟩
  exact ⟨v', rfl, SeqP.of_own ho fun b _ hb _ => hb, hb⟩
end
section
open Go.Shelf Go.RowKit Go.Lib
theorem mats_one (l : List Mat) : ∀ u ∈ l.flatMap matCells, u.oneCell' = true := by
 intro u hu
 obtain ⟨m, -, hm⟩ := List.mem_flatMap.1 hu
 simp only [matCells, List.mem_cons, List.not_mem_nil, or_false] at hm
 rcases hm with rfl | rfl | rfl <;> rfl
theorem strs_one (l : List ByteArray) : ∀ u ∈ l.map Value.string, u.oneCell' = true := by
 intro u hu
 obtain ⟨m, -, rfl⟩ := List.mem_map.1 hu
 rfl
def cloneM_ren : Ren := ⟨fun | 41 => 43 | n => n, fun | 22 => 25 | 23 => 71 | 4 => 4 | n => n, fun | n => n⟩
theorem cloneM_lays : SlLaysE0.n41 Tryd.prog cloneM_ren := {
 mixed := by kernel_rfl
 f41 := ⟨Tryd.f43.name, by decide, Tryd.func43.trans (congrArg some (by kernel_rfl))⟩
 t4 := Tryd.underlying4
 a4 := Tryd.isAgg4
 z4 := Tryd.sizeOf4
 v4 := Tryd.zeroValue4
 t22 := Tryd.underlying25
 a22 := Tryd.isAgg25
 z22 := Tryd.sizeOf25
 v22 := Tryd.zeroValue25 }
def cloneS_ren : Ren := ⟨fun | 41 => 44 | n => n, fun | 22 => 26 | 23 => 9 | 4 => 4 | n => n, fun | n => n⟩
theorem cloneS_lays : SlLaysE0.n41 Tryd.prog cloneS_ren := {
 mixed := by kernel_rfl
 f41 := ⟨Tryd.f44.name, by decide, Tryd.func44.trans (congrArg some (by kernel_rfl))⟩
 t4 := Tryd.underlying4
 a4 := Tryd.isAgg4
 z4 := Tryd.sizeOf4
 v4 := Tryd.zeroValue4
 t22 := Tryd.underlying26
 a22 := Tryd.isAgg26
 z22 := Tryd.sizeOf26
 v22 := Tryd.zeroValue26 }
def cloneE_ren : Ren := ⟨fun | 41 => 46 | n => n, fun | 22 => 27 | 23 => 29 | 4 => 4 | n => n, fun | n => n⟩
theorem cloneE_lays : SlLaysE0.n41 Tryd.prog cloneE_ren := {
 mixed := by kernel_rfl
 f41 := ⟨Tryd.f46.name, by decide, Tryd.func46.trans (congrArg some (by kernel_rfl))⟩
 t4 := Tryd.underlying4
 a4 := Tryd.isAgg4
 z4 := Tryd.sizeOf4
 v4 := Tryd.zeroValue4
 t22 := Tryd.underlying27
 a22 := Tryd.isAgg27
 z22 := Tryd.sizeOf27
 v22 := Tryd.zeroValue27 }
end
section
open Go.RowKit FracM
set_option maxHeartbeats 4000000 in
set_option maxRecDepth 100000 in
theorem rins_any (d : Nd) (A1 A2 A3 : Option Addr) (n1 c1 n2 c2 n3 c3 : Nat) (w : World) :
  Calls Tryd.prog 67 #[.agg (ndC d (.slice A1 n1 c1) (.slice A2 n2 c2) (.slice A3 n3 c3))] w (RetB (.agg (insC d (.slice A1 n1 c1) (.slice A2 n2 c2))) w) := by
 go_enter Tryd.func67, Tryd.ntmps67
 go_wp2_with fail
 exact bodyPost_ret (v := .agg (insC d (.slice A1 n1 c1) (.slice A2 n2 c2))) (by simp [results, Tryd.results67, go_sem]) rfl ⟨rfl, bel2 _ _ _⟩
set_option maxHeartbeats 4000000 in
set_option maxRecDepth 100000 in
theorem rnode_any (d : Nd) (A1 A2 : Option Addr) (n1 c1 n2 c2 : Nat) (w : World) :
  Calls Tryd.prog 68 #[.agg (insC d (.slice A1 n1 c1) (.slice A2 n2 c2))] w (RetB (.agg (ndC d (.slice A1 n1 c1) (.slice A2 n2 c2) (.slice none 0 0))) w) := by
 go_enter Tryd.func68, Tryd.ntmps68
 go_wp2_with fail
 exact bodyPost_ret (v := .agg (ndC d (.slice A1 n1 c1) (.slice A2 n2 c2) (.slice none 0 0))) (by simp [results, Tryd.results68, go_sem]) rfl ⟨rfl, bel2 _ _ _⟩
end
section
open Go.RowKit FracM
def popsZ (k : Int) : Int := if k = 0 ∨ k = 1 then 0 else if k = 2 then 1 else if k = 3 then 2 else -1
set_option maxHeartbeats 4000000 in
theorem pops_any (k : Int) (w : World) : Calls Tryd.prog 45 #[.int .i64 k] w fun e w' => e = .returned (.int .i64 (popsZ k)) ∧ w' = w := by
 obtain ⟨r, hr⟩ : ∃ r, popsZ k = r := ⟨_, rfl⟩
 have HR := Box.mk hr
 rw [hr]
 clear hr
 by_cases h0 : k = 0
 ·subst h0
  go_enter Tryd.func45, Tryd.ntmps45
  go_wp2_with fail
  go_ret
  exact ⟨by rw [← HR.out]; rfl, rfl⟩
 by_cases h1 : k = 1
 ·subst h1
  go_enter Tryd.func45, Tryd.ntmps45
  go_wp2_with fail
  go_ret
  exact ⟨by rw [← HR.out]; rfl, rfl⟩
 by_cases h2 : k = 2
 ·subst h2
  go_enter Tryd.func45, Tryd.ntmps45
  go_wp2_with fail
  go_ret
  exact ⟨by rw [← HR.out]; rfl, rfl⟩
 by_cases h3 : k = 3
 ·subst h3
  go_enter Tryd.func45, Tryd.ntmps45
  go_wp2_with fail
  go_ret
  exact ⟨by rw [← HR.out]; rfl, rfl⟩
 have e0 : (k == 0) = false := by simpa using h0
 have e1 : (k == 1) = false := by simpa using h1
 have e2 : (k == 2) = false := by simpa using h2
 have e3 : (k == 3) = false := by simpa using h3
 have HE : Box (r = -1) := ⟨by rw [← HR.out]; unfold popsZ; rw [if_neg (by omega), if_neg h2, if_neg h3]⟩
 clear h0 h1 h2 h3 HR
 go_enter Tryd.func45, Tryd.ntmps45
 go_wp2_with fail
 go_ret
 exact ⟨by rw [HE.out]; rfl, rfl⟩
end
end Go.Proofs.YtipafbppaaflcaaDoor
