/- Contracts, packed: Qw Kq Ql Ra. -/
import Derived.Test.YthoibeajhdhdhaaDoorPp11
import Derived.Test.YthoibeajhdhdhaaDoorPp12
import Derived.Test.YthoibeajhdhdhaaDoorPp24
import Derived.Deep.DeepCutAuto
set_option linter.unusedVariables false
set_option linter.unusedSimpArgs false
namespace Go.Proofs.YthoibeajhdhdhaaDoor
section
open Go.RowKit FracM

theorem TreeF.form {w : World} {B : Nat} {d : Nd} {ks : List Tree} {mv bv kv : Value} (h : TreeF w B (.node d ks) (mv, bv, kv)) : (∃ A c, mv = .slice A d.ms.length c ∧ True) ∧ (∃ A c, bv = .slice A d.bys.length c ∧ True) ∧ (∃ A c, kv = .slice A ks.length c ∧ True) := by
  obtain ⟨L, h⟩ := h
  obtain ⟨A1, c1, h1, -⟩ := h.tree.nod.ms.form
  obtain ⟨A2, c2, h2, -⟩ := h.tree.nod.bys.form
  obtain ⟨A3, c3, h3, -⟩ := h.tree.nod.kform
  exact ⟨⟨A1, c1, h1, trivial⟩, ⟨A2, c2, h2, trivial⟩, ⟨A3, c3, h3, trivial⟩⟩
end
section
open Go.RowKit FracM

abbrev VStr (x : ByteArray) (e : Ending) (_ : World) : Prop := e = .returned (.string x)
def lastLe (l : List ByteArray) (x : ByteArray) : Bool := match l.getLast? with | none => false | some p => leS x p
set_option maxRecDepth 100000 in
set_option maxHeartbeats 2000000 in
theorem pby_any (g : Nat) (en : Int) (ts : List Tok) (w : World) (h : PS w g en ts) (bv : Value) (l : List ByteArray) (P : Nat → Nat → Prop) (hl : SeqP w P 1 bv l.length (l.map Value.string)) :
    Calls Tryd.prog 101 #[.pointer (some ⟨g, 0, none⟩), bv] w (RetX g en w (byM en l ts) VStr) := by
  obtain ⟨A, n, rfl, hn⟩ := hl.form
  by_cases ht : kindT ts 0 = true
  · obtain ⟨t, r, rfl⟩ := kindT_cons ht
    by_cases h8 : 8 ≤ l.length
    · have hm : byM en l (t :: r) = bad en (t :: r) 4 := by unfold byM; rw [if_pos ht, if_pos h8]
      have h8' : (8 : Int) ≤ (l.length : Int) := by omega
      rw [hm]
      clear hm
      go_enter Tryd.func101, Tryd.ntmps101
      go_wp2_with fail
      refine (pkind_any g en 0 _ w h).mono ?_
      rintro e w1 ⟨rfl, rfl⟩
      rw [ht]
      go_wp2_with fail
      refine (pfail_any g en 4 _ _ h).mono ?_
      rintro e w1 ⟨rfl, rfl⟩
      go_wp2_with fail
      exact ⟨rfl, Only.of_below (Below.refl _ _), rfl⟩
    · have h8' : ¬ (8 : Int) ≤ (l.length : Int) := by omega
      obtain ⟨b, off, c, hb, hlt, hne, h1, h2, t0, t1, t2, t3, hr⟩ := h.cons
      obtain ⟨c0, c1⟩ := hb.c2
      have hz : (0 : Int) < ((r.length + 1 : Nat) : Int) := by omega
      have hm : byM en l (t :: r) = if lastLe l (bsL t.text) then bad en (t :: r) 8 else .ok (bsL t.text, r) := by unfold byM lastLe; rw [if_pos ht, if_neg h8]; rfl
      have hfd := tok_f1 (.int .i64 t.kind) (.string (bsL t.text)) (.int .i64 t.n) (.int .i64 (t.off : Int))
      rw [hm]
      clear hm hb hr
      rcases Nat.eq_zero_or_pos l.length with h0 | h0
      · obtain rfl : l = [] := List.eq_nil_of_length_eq_zero h0
        rw [if_neg (by simp [lastLe])]
        go_enter Tryd.func101, Tryd.ntmps101
        go_upto_region 5 with (go_at_call 87; refine (pkind_any g en 0 _ w h).mono ?_; rintro e w1 ⟨rfl, rfl⟩; rw [ht])
        go_quiet (fail)
        go_wp2_with fail
        refine (ptake_any g en t r _ (h.drewN nq)).mono ?_
        rintro e w1 ⟨rfl, hp, ho⟩
        have HP := Box.mk (And.intro hp ho)
        clear hp ho c0 c1 t0 t1 t2 t3 hz ht h h1 h2 hlt hne
        go_wp2_with fail
        go_ret
        exact ⟨(Only.of_below (below_drewN w nq)).trans HP.out.2, HP.out.1, rfl⟩
      · obtain ⟨k, hk⟩ : ∃ k, l.length = k + 1 := ⟨l.length - 1, by omega⟩
        obtain ⟨y, hy⟩ : ∃ y, l[k]? = some y := ⟨l[k]'(by omega), List.getElem?_eq_getElem _⟩
        obtain ⟨b', off', rfl, hb', m1⟩ := hl.at1 k (.string y) (by simp [hy])
        have HL : Box (lastLe l (bsL t.text) = leS (bsL t.text) y) := ⟨by unfold lastLe; rw [List.getLast?_eq_getElem?, hk, Nat.add_sub_cancel, hy]⟩
        rw [HL.out]
        rw [hk] at h8' ⊢
        have hj : 0 < ((k + 1 : Nat) : Int) := by omega
        have hj1 : IntKind.i64.wrap (((k + 1 : Nat) : Int) - 1) = (k : Int) := by rw [show ((k + 1 : Nat) : Int) - 1 = (k : Int) by omega]; exact W64_in (by omega) (by omega)
        have hj2 : (k : Int) < ((k + 1 : Nat) : Int) := by omega
        clear hl hy h0 hk h8 HL
        cases hq : leS (bsL t.text) y
        · have q : (Op.bytesLess (bsL t.text).toList y.toList || (bsL t.text).toList == y.toList) = false := hq
          rw [if_neg Bool.false_ne_true]
          clear hq
          go_enter Tryd.func101, Tryd.ntmps101
          go_upto_region 5 with (go_at_call 87; refine (pkind_any g en 0 _ w h).mono ?_; rintro e w1 ⟨rfl, rfl⟩; rw [ht])
          go_quiet (fail)
          have hps := h.drewN nq
          have hon : Only g w (w.drewN nq) := Only.of_below (below_drewN w nq)
          clear h c0 c1 t0 t1 t2 t3 m1
          generalize w.drewN nq = W at *
          go_wp2_with fail
          refine (ptake_any g en t r _ hps).mono ?_
          rintro e w1 ⟨rfl, hp, ho⟩
          have HP := Box.mk (And.intro hp (hon.trans ho))
          clear hp ho hz ht hps hon h1 h2 hlt hne
          go_wp2_with fail
          go_ret
          exact ⟨HP.out.2, HP.out.1, rfl⟩
        · have q : (Op.bytesLess (bsL t.text).toList y.toList || (bsL t.text).toList == y.toList) = true := hq
          rw [if_pos rfl]
          clear hq
          go_enter Tryd.func101, Tryd.ntmps101
          go_upto_region 5 with (go_at_call 87; refine (pkind_any g en 0 _ w h).mono ?_; rintro e w1 ⟨rfl, rfl⟩; rw [ht])
          go_quiet (fail)
          have hps := h.drewN nq
          have hon : Only g w (w.drewN nq) := Only.of_below (below_drewN w nq)
          clear h c0 c1 t0 t1 t2 t3 m1
          generalize w.drewN nq = W at *
          go_wp2_with fail
          refine (pfail_any g en 8 _ _ hps).mono ?_
          rintro e w1 ⟨rfl, rfl⟩
          go_wp2_with fail
          exact ⟨rfl, hon, rfl⟩
  · have hm : byM en l ts = bad en ts 2 := by unfold byM; rw [if_neg ht]
    rw [hm]
    have ht2 : kindT ts 0 = false := by simpa using ht
    clear hm
    go_enter Tryd.func101, Tryd.ntmps101
    go_wp2_with fail
    refine (pkind_any g en 0 _ w h).mono ?_
    rintro e w1 ⟨rfl, rfl⟩
    rw [ht2]
    go_wp2_with fail
    refine (pfail_any g en 2 ts _ h).mono ?_
    rintro e w1 ⟨rfl, rfl⟩
    go_wp2_with fail
    exact ⟨rfl, Only.of_below (Below.refl _ _), rfl⟩
end
section
open Go.RowKit FracM

theorem RetStrs.after {l : List ByteArray} {w w1 w' : World} {e : Ending} (h : RetStrs l w1 e w') (hb : Below w.heap.size w w1) : RetStrs l w e w' := by
  obtain ⟨A, n, c, h1, h2, h3, h4⟩ := h
  exact ⟨A, n, c, h1, h2, h3, bthen hb h4 (Nat.le_refl _)⟩
theorem RetStrs.of {l l' : List ByteArray} {w w' : World} {e : Ending} (h : RetStrs l w e w') (hl : l = l') : RetStrs l' w e w' := hl ▸ h
theorem StrsP.len {w : World} {A : Option Addr} {n c : Nat} {l : List ByteArray} (h : StrsP w (.slice A n c) l) : n = l.length ∧ n ≤ 9223372036854775807 := by
  obtain ⟨_, _, _, hv, h1, h2, _⟩ := h
  cases hv
  unfold maxLen at h2
  exact ⟨rfl, by omega⟩
theorem StrsP.at_ {w : World} {A : Option Addr} {n c : Nat} {l : List ByteArray} (h : StrsP w (.slice A n c) l) (k : Nat) (hk : k < l.length) : ∃ x b off, l[k]? = some x ∧ A = some ⟨b, off, none⟩ ∧ b < w.heap.size ∧ w.cell? ⟨b, off + k, none⟩ = some (.string x) := by
  obtain ⟨x, hx⟩ : ∃ x, l[k]? = some x := ⟨l[k], List.getElem?_eq_getElem _⟩
  obtain ⟨b, off, h1, h2, h3⟩ := SeqP.at1 h k (.string x) (by simp [hx])
  exact ⟨x, b, off, hx, h1, h2, h3⟩
end
section
open Go.RowKit FracM

/-- a declaration with the value of its labels and its other numbers -/
structure Dx where
  dc : Dc
  lv : Value
  o : Nat → Int
abbrev dcC (x : Dx) : Array Value := #[.string x.dc.1, x.lv, .int .i64 x.dc.2.2.1, .int .i64 x.dc.2.2.2.1, .int .i64 x.dc.2.2.2.2, .int .i64 (x.o 0), .int .i64 (x.o 1), .int .i64 (x.o 2), .int .i64 (x.o 3), .int .i64 (x.o 4), .int .i64 (x.o 5), .int .i64 (x.o 6)]
def dcL (x : Dx) : List Value := (dcC x).toList
theorem Strs.at_ {w : World} {base n c : Nat} {A : Option Addr} {l : List ByteArray} (h : Strs w base (.slice A n c) l) (k : Nat) (hk : k < l.length) : ∃ b off x, A = some ⟨b, off, none⟩ ∧ Fit w base 9 b ∧ l[k]? = some x ∧ w.cell? ⟨b, off + k, none⟩ = some (.string x) := by
  obtain ⟨h1, A', c', hv, _, _, h2⟩ := h
  cases hv
  obtain ⟨b, off, rfl, hf, hx⟩ := h2 (by omega)
  exact ⟨b, off, l[k], rfl, hf, List.getElem?_eq_getElem hk, hx k _ (by rw [List.getElem?_map, List.getElem?_eq_getElem hk]; rfl)⟩

theorem Ints.new (w : World) (base : Nat) (l : List Int) (cs : Array Value) (h : cs.toList = l.map (Value.int .i64)) (hl : l.length ≤ 1000) (hx : ∀ x ∈ l, I64 x) : Ints (w.alloc (.cells cs 3)) base (.slice (some ⟨w.heap.size, 0, none⟩) l.length l.length) l := by
  refine ⟨⟨by simp, _, _, rfl, Nat.le_refl _, by unfold maxLen; omega, fun _ => ⟨w.heap.size, 0, rfl, ⟨by simp, .inr ⟨_, _, heap_alloc_new w _⟩⟩, ?_⟩⟩, hx⟩
  intro j u hj
  rw [← h] at hj
  have := cell_of_row (w.alloc (.cells cs 3)) w.heap.size (0 + j) cs 3 (0, 0) (heap_alloc_new w _)
  rw [this, Nat.zero_add]
  simpa using hj
end
end Go.Proofs.YthoibeajhdhdhaaDoor
