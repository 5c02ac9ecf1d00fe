/- Contracts, packed: Kp Qk Kq Ql Zb Zc Ra. -/
import Derived.Test.YthoibeajhdhdhaaGreatDoorPs6
import Derived.Test.YthoibeajhdhdhaaGreatDoorPs9
import Derived.Test.YthoibeajhdhdhaaGreatDoorPs11
import Derived.Test.YthoibeajhdhdhaaGreatDoorPs12
import Derived.Test.YthoibeajhdhdhaaGreatDoorPs13
import Derived.Test.YthoibeajhdhdhaaGreatDoorPs17
import Derived.Laws.Concat
import Derived.Deep.DeepCutAuto
set_option linter.unusedVariables false
set_option linter.unusedSimpArgs false
namespace Go.Proofs.YthoibeajhdhdhaaGreatDoor
section
open Go.RowKit FracM
/-- the words of a variable, in its cells -/
def WordsAt (w : World) (g : Nat) (l : List (List UInt8)) : Prop := g < w.heap.size ∧ ∀ (k : Nat) (x : List UInt8), l[k]? = some x → w.cell? ⟨g, k, none⟩ = some (.string (bsL x))
theorem WordsAt.below {w w' : World} {g : Nat} {l : List (List UInt8)} (h : WordsAt w g l) (hb : Below w.heap.size w w') : WordsAt w' g l := ⟨Nat.lt_of_lt_of_le h.1 hb.size, fun k x hx => (hb.cell h.1).trans (h.2 k x hx)⟩
theorem WordsAt.only {w w' : World} {g q : Nat} {l : List (List UInt8)} (h : WordsAt w g l) (hb : Only q w w') (hq : g ≠ q) : WordsAt w' g l := ⟨Nat.lt_of_lt_of_le h.1 hb.size, fun k x hx => (World.cell?_of_block (a := ⟨g, k, none⟩) (hb.block g h.1 hq)).trans (h.2 k x hx)⟩
/-- a block behind the variables -/
def Far (p : Nat) : Prop := 1 < p ∧ 3 < p ∧ 2 < p ∧ 0 < p
theorem Far.le {p q : Nat} (h : Far p) (k : p ≤ q) : Far q := ⟨Nat.lt_of_lt_of_le h.1 k, Nat.lt_of_lt_of_le h.2.1 k, Nat.lt_of_lt_of_le h.2.2.1 k, Nat.lt_of_lt_of_le h.2.2.2 k⟩
/-- all variables of the parser; q: the block of the parser's state -/
structure WordsP (w : World) (q : Nat) : Prop where
 grp : WordsAt w 1 groupsT
 fn : WordsAt w 3 funcsT
 mat : WordsAt w 2 matchT
 opr : WordsAt w 0 opersT
 far : Far q
theorem WordsP.below {w w' : World} {q : Nat} (h : WordsP w q) (hb : Below w.heap.size w w') : WordsP w' q := ⟨h.grp.below hb, h.fn.below hb, h.mat.below hb, h.opr.below hb, h.far⟩
theorem WordsP.only {w w' : World} {q p : Nat} (h : WordsP w q) (hb : Only p w w') (hp : Far p) : WordsP w' q :=
 ⟨h.grp.only hb (Nat.ne_of_lt hp.1), h.fn.only hb (Nat.ne_of_lt hp.2.1), h.mat.only hb (Nat.ne_of_lt hp.2.2.1), h.opr.only hb (Nat.ne_of_lt hp.2.2.2), h.far⟩
theorem getD_map (l : List (List UInt8)) (k : Nat) : (l.map bsL).getD k ByteArray.empty = bsL (l.getD k []) := by
 rw [List.getD_eq_getElem?_getD, List.getD_eq_getElem?_getD, List.getElem?_map]
 cases l[k]? <;> rfl
theorem idx_eq (l : List (List UInt8)) (x : List UInt8) : Lib.idxOfS (l.map bsL) (bsL x) = idxT l x := by
 have ht : l.map bsL = (l.map bsL).take l.length := by rw [List.take_of_length_le (by simp)]
 rw [ht]
 unfold idxT
 cases h : l.findIdx? (fun y => y == x) with
 | none =>
  rw [List.findIdx?_eq_none_iff] at h
  refine Lib.idxOfS_miss _ _ _ fun j hj e => ?_
  rw [getD_map, bsL_inj] at e
  have := h (l[j]) (List.getElem_mem hj)
  rw [List.getD_eq_getElem?_getD, List.getElem?_eq_getElem hj] at e
  simp at e this
  exact this e
 | some i =>
  rw [List.findIdx?_eq_some_iff_getElem] at h
  obtain ⟨hi, h1, h2⟩ := h
  refine Lib.idxOfS_hit _ _ i _ hi (by simp) ?_ fun j hj e => ?_
  ·rw [getD_map, bsL_inj, List.getD_eq_getElem?_getD, List.getElem?_eq_getElem hi]
   simpa using h1
  ·rw [getD_map, bsL_inj, List.getD_eq_getElem?_getD, List.getElem?_eq_getElem (by omega)] at e
   have := h2 j hj
   simp at e this
   exact this e
theorem pindex_any (g n : Nat) (l : List (List UInt8)) (hn : n = l.length) (hl : n ≤ 100) (x : List UInt8) (w : World) (h : WordsAt w g l) :
  Calls Tryz.prog 131 #[.slice (some ⟨g, 0, none⟩) n n, .string (bsL x)] w fun e w' => e = .returned (.int .i64 (idxT l x)) ∧ w = w' := by
 subst hn
 refine (Tryz.slices_Index_string g 0 l.length l.length (l.map bsL) (bsL x) w (by simp) (by omega) (fun j hj => ?_)).mono ?_
 ·rw [getD_map, Nat.zero_add]
  simp only [List.length_map] at hj
  exact h.2 j _ (by rw [List.getD_eq_getElem?_getD, List.getElem?_eq_getElem hj]; rfl)
 ·rintro e w' ⟨rfl, rfl⟩
  refine ⟨?_, rfl⟩
  rw [List.take_of_length_le (by simp), idx_eq]
end
section
open Go.RowKit FracM
def AnyP : Nat → Nat → Prop := fun _ _ => True
theorem kid2 {w : World} {P : Nat → Nat → Prop} {d : Nd} {ks : List Tree} {mv bv : Value} {A : Option Addr} {n c : Nat} (h : Nod w P d ks mv bv (.slice A n c)) (i : Nat) (hi : i < ks.length) :
  ∃ e es b off B1 m1 B2 m2 B3 m3, ks[i]? = some (.node e es) ∧ A = some ⟨b, off, none⟩ ∧ b < w.heap.size ∧ (∃ z, P b z) ∧ At11 w b (off + i * 11) e (.slice B1 e.ms.length m1) (.slice B2 e.bys.length m2) (.slice B3 es.length m3) ∧ TreeAt w P (.node e es) (.slice B1 e.ms.length m1, .slice B2 e.bys.length m2, .slice B3 es.length m3) := by
 obtain ⟨x, hx⟩ : ∃ x, ks[i]? = some x := ⟨ks[i], List.getElem?_eq_getElem _⟩
 obtain ⟨e, es⟩ := x
 obtain ⟨b, off, mv', bv', kv', rfl, hb, hp, h11, hT⟩ := h.kid i e es hx
 obtain ⟨B1, m1, rfl, -⟩ := hT.nod.ms.form
 obtain ⟨B2, m2, rfl, -⟩ := hT.nod.bys.form
 obtain ⟨B3, m3, rfl, -⟩ := hT.nod.kform
 exact ⟨e, es, b, off, B1, m1, B2, m2, B3, m3, hx, rfl, hb, hp, h11, hT⟩
theorem two_of {ks : List Tree} {a b : Tree} (hl : ks.length = 2) (h0 : ks[0]? = some a) (h1 : ks[1]? = some b) : ks = [a, b] := by
 match ks, hl with
 | [x, y], _ => simp at h0 h1; rw [h0, h1]
theorem one_of {ks : List Tree} {a : Tree} (hl : ks.length = 1) (h0 : ks[0]? = some a) : ks = [a] := by
 match ks, hl with
 | [x], _ => simp at h0; rw [h0]
end
section
open Go.RowKit FracM
abbrev VStr (x : ByteArray) (e : Ending) (_ : World) : Prop := e = .returned (.string x)
def lastLe (l : List ByteArray) (x : ByteArray) : Bool := match l.getLast? with | none => false | some p => leS x p
set_option maxRecDepth 100000 in
set_option maxHeartbeats 2000000 in
theorem pby_any (g : Nat) (en : Int) (ts : List Tok) (w : World) (h : PS w g en ts) (bv : Value) (l : List ByteArray) (P : Nat → Nat → Prop) (hl : SeqP w P 1 bv l.length (l.map Value.string)) :
  Calls Tryz.prog 154 #[.pointer (some ⟨g, 0, none⟩), bv] w (RetX g en w (byM en l ts) VStr) := by
 obtain ⟨A, n, rfl, hn⟩ := hl.form
 by_cases ht : kindT ts 0 = true
 ·obtain ⟨t, r, rfl⟩ := kindT_cons ht
  by_cases h8 : 8 ≤ l.length
  ·have hm : byM en l (t :: r) = bad en (t :: r) 4 := by unfold byM; rw [if_pos ht, if_pos h8]
   have h8' : (8 : Int) ≤ (l.length : Int) := by omega
   rw [hm]
   clear hm
   go_enter Tryz.func154, Tryz.ntmps154
   go_wp2_with fail
   refine (pkind_any g en 0 _ w h).mono ?_
   rintro e w1 ⟨rfl, rfl⟩
   rw [ht]
   go_wp2_with fail
   refine (pfail_any g en 4 _ _ h).mono ?_
   rintro e w1 ⟨rfl, rfl⟩
   go_wp2_with fail
   exact ⟨rfl, Only.of_below (Below.refl _ _), rfl⟩
  ·have h8' : ¬ (8 : Int) ≤ (l.length : Int) := by omega
   obtain ⟨b, off, c, hb, hlt, hne, h1, h2, t0, t1, t2, t3, hr⟩ := h.cons
   obtain ⟨c0, c1⟩ := hb.c2
   have hz : (0 : Int) < ((r.length + 1 : Nat) : Int) := by omega
   have hm : byM en l (t :: r) = if lastLe l (bsL t.text) then bad en (t :: r) 8 else .ok (bsL t.text, r) := by unfold byM lastLe; rw [if_pos ht, if_neg h8]; rfl
   have hfd := tok_f1 (.int .i64 t.kind) (.string (bsL t.text)) (.int .i64 t.n) (.int .i64 (t.off : Int))
   rw [hm]
   clear hm hb hr
   rcases Nat.eq_zero_or_pos l.length with h0 | h0
   ·obtain rfl : l = [] := List.eq_nil_of_length_eq_zero h0
    rw [if_neg (by simp [lastLe])]
    go_enter Tryz.func154, Tryz.ntmps154
    go_upto_region 5 with (go_at_call 139; refine (pkind_any g en 0 _ w h).mono ?_; rintro e w1 ⟨rfl, rfl⟩; rw [ht])
    go_quiet (fail)
    go_wp2_with fail
    refine (ptake_any g en t r _ (h.drewN nq)).mono ?_
    rintro e w1 ⟨rfl, hp, ho⟩
    have HP := Box.mk (And.intro hp ho)
    clear hp ho c0 c1 t0 t1 t2 t3 hz ht h h1 h2 hlt hne
    go_wp2_with fail
    go_ret
    exact ⟨(Only.of_below (below_drewN w nq)).trans HP.out.2, HP.out.1, rfl⟩
   ·obtain ⟨k, hk⟩ : ∃ k, l.length = k + 1 := ⟨l.length - 1, by omega⟩
    obtain ⟨y, hy⟩ : ∃ y, l[k]? = some y := ⟨l[k]'(by omega), List.getElem?_eq_getElem _⟩
    obtain ⟨b', off', rfl, hb', m1⟩ := hl.at1 k (.string y) (by simp [hy])
    have HL : Box (lastLe l (bsL t.text) = leS (bsL t.text) y) := ⟨by unfold lastLe; rw [List.getLast?_eq_getElem?, hk, Nat.add_sub_cancel, hy]⟩
    rw [HL.out]
    rw [hk] at h8' ⊢
    have hj : 0 < ((k + 1 : Nat) : Int) := by omega
    have hj1 : IntKind.i64.wrap (((k + 1 : Nat) : Int) - 1) = (k : Int) := by rw [show ((k + 1 : Nat) : Int) - 1 = (k : Int) by omega]; exact W64_in (by omega) (by omega)
    have hj2 : (k : Int) < ((k + 1 : Nat) : Int) := by omega
    clear hl hy h0 hk h8 HL
    cases hq : leS (bsL t.text) y
    ·have q : (Op.bytesLess (bsL t.text).toList y.toList || (bsL t.text).toList == y.toList) = false := hq
     rw [if_neg Bool.false_ne_true]
     clear hq
     go_enter Tryz.func154, Tryz.ntmps154
     go_upto_region 5 with (go_at_call 139; refine (pkind_any g en 0 _ w h).mono ?_; rintro e w1 ⟨rfl, rfl⟩; rw [ht])
     go_quiet (fail)
     have hps := h.drewN nq
     have hon : Only g w (w.drewN nq) := Only.of_below (below_drewN w nq)
     clear h c0 c1 t0 t1 t2 t3 m1
     generalize w.drewN nq = W at *
     go_wp2_with fail
     refine (ptake_any g en t r _ hps).mono ?_
     rintro e w1 ⟨rfl, hp, ho⟩
     have HP := Box.mk (And.intro hp (hon.trans ho))
     clear hp ho hz ht hps hon h1 h2 hlt hne
     go_wp2_with fail
     go_ret
     exact ⟨HP.out.2, HP.out.1, rfl⟩
    ·have q : (Op.bytesLess (bsL t.text).toList y.toList || (bsL t.text).toList == y.toList) = true := hq
     rw [if_pos rfl]
     clear hq
     go_enter Tryz.func154, Tryz.ntmps154
     go_upto_region 5 with (go_at_call 139; refine (pkind_any g en 0 _ w h).mono ?_; rintro e w1 ⟨rfl, rfl⟩; rw [ht])
     go_quiet (fail)
     have hps := h.drewN nq
     have hon : Only g w (w.drewN nq) := Only.of_below (below_drewN w nq)
     clear h c0 c1 t0 t1 t2 t3 m1
     generalize w.drewN nq = W at *
     go_wp2_with fail
     refine (pfail_any g en 8 _ _ hps).mono ?_
     rintro e w1 ⟨rfl, rfl⟩
     go_wp2_with fail
     exact ⟨rfl, hon, rfl⟩
 ·have hm : byM en l ts = bad en ts 2 := by unfold byM; rw [if_neg ht]
  rw [hm]
  have ht2 : kindT ts 0 = false := by simpa using ht
  clear hm
  go_enter Tryz.func154, Tryz.ntmps154
  go_wp2_with fail
  refine (pkind_any g en 0 _ w h).mono ?_
  rintro e w1 ⟨rfl, rfl⟩
  rw [ht2]
  go_wp2_with fail
  refine (pfail_any g en 2 ts _ h).mono ?_
  rintro e w1 ⟨rfl, rfl⟩
  go_wp2_with fail
  exact ⟨rfl, Only.of_below (Below.refl _ _), rfl⟩
end
section
open Go.RowKit FracM
end
section
open Go.RowKit
def bs (l : List UInt8) : ByteArray := ⟨l.toArray⟩
end
section
open Go.RowKit
end
section
open Go.RowKit FracM
end
end Go.Proofs.YthoibeajhdhdhaaGreatDoor
