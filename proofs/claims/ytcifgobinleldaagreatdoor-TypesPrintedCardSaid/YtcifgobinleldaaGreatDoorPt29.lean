/- Contracts, packed: Qm Kq Jk. -/
import Derived.Test.YtcifgobinleldaaGreatDoorPt21
import Derived.Test.YtcifgobinleldaaGreatDoorPt22
import Derived.Test.YtcifgobinleldaaGreatDoorPt26
import Derived.Test.YtcifgobinleldaaGreatDoorPt28
set_option linter.unusedVariables false
set_option linter.unusedSimpArgs false
namespace Go.Proofs.YtcifgobinleldaaGreatDoor
section
open Go.RowKit FracM

def DxOk (w : World) (P : Nat → Nat → Prop) (x : Dx) : Prop := SeqP w P 2 x.lv x.dc.2.1.length (x.dc.2.1.flatMap labCells) ∧ x.dc.1.size ≤ maxLen ∧ I64 x.dc.2.2.1 ∧ I64 x.dc.2.2.2.1 ∧ I64 x.dc.2.2.2.2
def DecsAt (w : World) (P : Nat → Nat → Prop) (v : Value) (l : List Dx) : Prop := SeqP w P 12 v l.length (l.flatMap dcL) ∧ ∀ x ∈ l, DxOk w P x
theorem DecsAt.keep {w w' : World} {P : Nat → Nat → Prop} {v : Value} {l : List Dx} (h : DecsAt w P v l) (f : Agree P w w') : DecsAt w' P v l := ⟨h.1.keep f, fun x hx => ⟨(h.2 x hx).1.keep f, (h.2 x hx).2⟩⟩
theorem DecsAt.mono {w : World} {P Q : Nat → Nat → Prop} {v : Value} {l : List Dx} (h : DecsAt w P v l) (hq : ∀ b e, b < w.heap.size → P b e → Q b e) : DecsAt w Q v l := ⟨h.1.mono hq, fun x hx => ⟨(h.2 x hx).1.mono hq, (h.2 x hx).2⟩⟩
def dcs (l : List Dx) : List Dc := l.map (·.dc)
abbrev uV (u : U3) : Value := .agg #[.int .i64 u.1, .int .i64 u.2.1, .int .i64 u.2.2]
abbrev uC (u : U3) : Array Value := #[.int .i64 u.1, .int .i64 u.2.1, .int .i64 u.2.2]
def uL (u : U3) : List Value := [.int .i64 u.1, .int .i64 u.2.1, .int .i64 u.2.2]
abbrev At12 (w : World) (b o : Nat) (x : Dx) : Prop := w.cell? ⟨b, o, none⟩ = some (.string x.dc.1) ∧ w.cell? ⟨b, o + 1, none⟩ = some x.lv ∧ w.cell? ⟨b, o + 2, none⟩ = some (.int .i64 x.dc.2.2.1) ∧ w.cell? ⟨b, o + 3, none⟩ = some (.int .i64 x.dc.2.2.2.1) ∧ w.cell? ⟨b, o + 4, none⟩ = some (.int .i64 x.dc.2.2.2.2) ∧ w.cell? ⟨b, o + 5, none⟩ = some (.int .i64 (x.o 0)) ∧ w.cell? ⟨b, o + 6, none⟩ = some (.int .i64 (x.o 1)) ∧ w.cell? ⟨b, o + 7, none⟩ = some (.int .i64 (x.o 2)) ∧ w.cell? ⟨b, o + 8, none⟩ = some (.int .i64 (x.o 3)) ∧ w.cell? ⟨b, o + 9, none⟩ = some (.int .i64 (x.o 4)) ∧ w.cell? ⟨b, o + 10, none⟩ = some (.int .i64 (x.o 5)) ∧ w.cell? ⟨b, o + 11, none⟩ = some (.int .i64 (x.o 6))
theorem DecsAt.at_ {w : World} {P : Nat → Nat → Prop} {A : Option Addr} {n c : Nat} {l : List Dx} (h : DecsAt w P (.slice A n c) l) (i : Nat) (x : Dx) (hi : l[i]? = some x) :
    ∃ b off, A = some ⟨b, off, none⟩ ∧ b < w.heap.size ∧ (∃ z, P b z) ∧ At12 w b (off + i * 12) x := by
  have hlt : i < l.length := (List.getElem?_eq_some_iff.1 hi).1
  obtain ⟨⟨_, A', c', hv, _, _, h2⟩, _⟩ := h
  cases hv
  obtain ⟨b, off, rfl, hb, hp, hx⟩ := h2 (by omega)
  refine ⟨b, off, rfl, hb, ⟨_, hp⟩, ?_⟩
  have g := fun j (hj : j < 12) => flat_get dcL 12 (fun _ => rfl) l i j _ hi hj
  refine ⟨?_, ?_, ?_, ?_, ?_, ?_, ?_, ?_, ?_, ?_, ?_, ?_⟩
  · exact hx _ _ ((g 0 (by omega)).trans rfl)
  · rw [Nat.add_assoc]; exact hx _ _ ((g 1 (by omega)).trans rfl)
  · rw [Nat.add_assoc]; exact hx _ _ ((g 2 (by omega)).trans rfl)
  · rw [Nat.add_assoc]; exact hx _ _ ((g 3 (by omega)).trans rfl)
  · rw [Nat.add_assoc]; exact hx _ _ ((g 4 (by omega)).trans rfl)
  · rw [Nat.add_assoc]; exact hx _ _ ((g 5 (by omega)).trans rfl)
  · rw [Nat.add_assoc]; exact hx _ _ ((g 6 (by omega)).trans rfl)
  · rw [Nat.add_assoc]; exact hx _ _ ((g 7 (by omega)).trans rfl)
  · rw [Nat.add_assoc]; exact hx _ _ ((g 8 (by omega)).trans rfl)
  · rw [Nat.add_assoc]; exact hx _ _ ((g 9 (by omega)).trans rfl)
  · rw [Nat.add_assoc]; exact hx _ _ ((g 10 (by omega)).trans rfl)
  · rw [Nat.add_assoc]; exact hx _ _ ((g 11 (by omega)).trans rfl)
theorem DecsAt.len {w : World} {P : Nat → Nat → Prop} {A : Option Addr} {n c : Nat} {l : List Dx} (h : DecsAt w P (.slice A n c) l) : n = l.length ∧ n ≤ 9223372036854775807 := by
  obtain ⟨⟨_, _, _, hv, h1, h2, _⟩, _⟩ := h
  cases hv
  unfold maxLen at h2
  exact ⟨rfl, by omega⟩
theorem blk12 {W : World} {g : Nat} {t : TypeId} {x : Dx} (h : Blk W g t (dcC x)) : At12 W g 0 x := by
  unfold Blk at h
  refine ⟨?_, ?_, ?_, ?_, ?_, ?_, ?_, ?_, ?_, ?_, ?_, ?_⟩ <;> simp [World.cell?, h]
/-- the frame of a method of typing: all below base is as it stands here -/
structure S2 (g : Nat) (w W : World) (P : Nat → Nat → Prop) (d : Nd) (ks : List Tree) (mv bv kv dv : Value) (D : List Dx) (er : Int) : Prop where
  only : Only g w W
  T : Blk W g 133 #[dv, .int .i64 er]
  Q : Blk W w.heap.size 33 (ndC d mv bv kv)
  R : Blk W (w.heap.size + 1) 61 #[.int .i64 0, .int .i64 0, .int .i64 0]
  nod : Nod W P d ks mv bv kv
  decs : DecsAt W P dv D
theorem S2.start {g : Nat} {w : World} {P : Nat → Nat → Prop} {d : Nd} {ks : List Tree} {mv bv kv dv : Value} {D : List Dx} {er : Int} (hg : Blk w g 133 #[dv, .int .i64 er]) (hT : TreeAt w P (.node d ks) (mv, bv, kv)) (hD : DecsAt w P dv D) : S2 g w ((w.alloc (.cells (ndC d mv bv kv) 33)).alloc (.cells #[.int .i64 0, .int .i64 0, .int .i64 0] 61)) P d ks mv bv kv dv D er :=
  ⟨Only.of_below (bel2 _ _ _), (hg.alloc _).alloc _, (Blk.new _ _ _).alloc _, Blk.newAt _ _ (by simp), (hT.belo (bel2 _ _ _)).nod, hD.keep (Agree.of_below (bel2 _ _ _))⟩
theorem S2.below {g : Nat} {w W W' : World} {P : Nat → Nat → Prop} {d : Nd} {ks : List Tree} {mv bv kv dv : Value} {D : List Dx} {er : Int} (h : S2 g w W P d ks mv bv kv dv D er) (hb : Below W.heap.size W W') : S2 g w W' P d ks mv bv kv dv D er :=
  ⟨h.only.trans (Only.of_below hb), h.T.below hb, h.Q.below hb, h.R.below hb, h.nod.below hb, h.decs.keep (Agree.of_below hb)⟩
/-- blocks from base on may turn -/
theorem S2.from_ {g : Nat} {w W W' : World} {P : Nat → Nat → Prop} {d : Nd} {ks : List Tree} {mv bv kv dv : Value} {D : List Dx} {er : Int} (h : S2 g w W P d ks mv bv kv dv D er) (hg : g < w.heap.size) (hP : ∀ b e, P b e → b < w.heap.size) (hb : Below (w.heap.size + 2) W W') : S2 g w W' P d ks mv bv kv dv D er := by
  have hz := h.R.lt
  refine ⟨⟨hb.os.trans h.only.os, hb.tape.trans h.only.tape, hb.output.trans h.only.output, Nat.le_trans h.only.size hb.size, fun k hk hn => (hb.block k (by omega)).trans (h.only.block k hk hn)⟩, (hb.block _ (by omega)).trans h.T, (hb.block _ (by omega)).trans h.Q, (hb.block _ (by omega)).trans h.R, h.nod.keep (Agree.of_lt hb fun b e hp => by have := hP b e hp; omega), h.decs.keep (Agree.of_lt hb fun b e hp => by have := hP b e hp; omega)⟩
theorem S2.next {g : Nat} {w W W' : World} {P : Nat → Nat → Prop} {d : Nd} {ks : List Tree} {mv bv kv dv : Value} {D : List Dx} {er er' : Int} (h : S2 g w W P d ks mv bv kv dv D er) (hg : g < w.heap.size) (hP : ∀ b e, P b e → b ≠ g) (ho : Only g W W') (hT : Blk W' g 133 #[dv, .int .i64 er']) : S2 g w W' P d ks mv bv kv dv D er' :=
  ⟨h.only.trans ho, hT, ho.blk h.Q (by omega), ho.blk h.R (by omega), h.nod.keep (Agree.of_only ho hP), h.decs.keep (Agree.of_only ho hP)⟩
/-- the result is stored and returned -/
theorem S2.fin {g : Nat} {w W : World} {P : Nat → Nat → Prop} {d : Nd} {ks : List Tree} {mv bv kv dv : Value} {D : List Dx} {er : Int} (h : S2 g w W P d ks mv bv kv dv D er) (hg : g < w.heap.size) (v : Value) (u0 u1 u2 : Value) : RetT g v #[dv, .int .i64 er] w (.returned v) (((W.setCell ⟨w.heap.size + 1, 0, none⟩ u0).setCell ⟨w.heap.size + 1, 1, none⟩ u1).setCell ⟨w.heap.size + 1, 2, none⟩ u2) :=
  ⟨rfl, ((h.T.far (p := ⟨w.heap.size + 1, 0, none⟩) (by simp only; omega) _).far (p := ⟨w.heap.size + 1, 1, none⟩) (by simp only; omega) _).far (p := ⟨w.heap.size + 1, 2, none⟩) (by simp only; omega) _,
   ((h.only.newCell (p := ⟨w.heap.size + 1, 0, none⟩) (by simp) u0).newCell (p := ⟨w.heap.size + 1, 1, none⟩) (by simp) u1).newCell (p := ⟨w.heap.size + 1, 2, none⟩) (by simp) u2⟩
theorem okU_inU (u : U3) : inU u.1 u.2.1 u.2.2 = okU u := by
  unfold inU okU in3 inR
  simp only [Bool.and_assoc]
set_option maxHeartbeats 1000000 in
theorem limited_any (g : Nat) (dv : Value) (u : U3) (w : World) (hg : Blk w g 133 #[dv, .int .i64 0]) : Calls Tryz.prog 169 #[.pointer (some ⟨g, 0, none⟩), uV u] w (RetT g (uV (limU u).1) #[dv, .int .i64 (limU u).2] w) := by
  obtain ⟨x, y, z⟩ := u
  have gz := hg.lt
  have HG := Box.mk hg
  clear hg
  obtain ⟨q, E⟩ : ∃ q, Box (okU (x, y, z) = q) := ⟨_, ⟨rfl⟩⟩
  obtain ⟨r, hr⟩ : ∃ r, r = limU (x, y, z) := ⟨_, rfl⟩
  rw [← hr]
  have HR := Box.mk hr
  clear hr
  go_enter Tryz.func169, Tryz.ntmps169
  go_wp2_with fail
  refine (uv_any _ _ _ _).mono ?_
  rintro e w1 ⟨rfl, hb⟩
  rw [okU_inU (x, y, z), E.out]
  have HB : Hid (Below w.heap.size w w1 ∧ Blk w1 w.heap.size 61 #[.int .i64 x, .int .i64 y, .int .i64 z] ∧ Blk w1 (w.heap.size + 1) 61 #[.int .i64 0, .int .i64 0, .int .i64 0]) := ⟨bthen (bel2 _ _ _) hb (Nat.le_refl _), ((Blk.new _ _ _).alloc _).below hb, (Blk.newAt _ _ (by simp)).below hb⟩
  clear hb
  cases q
  · have HR2 : Box (r = (u0, 4)) := ⟨by rw [HR.out]; unfold limU; rw [E.out]; rfl⟩
    go_wp2_with fail
    refine (fail_any g _ _ _ ((HB.out.1.block g gz).trans HG.out)).mono ?_
    rintro e w5 ⟨rfl, hT, ho⟩
    have hg1 := HB.out.2.2.lt
    have HR5 : Box (Blk w5 (w.heap.size + 1) 61 #[.int .i64 0, .int .i64 0, .int .i64 0]) := ⟨ho.blk HB.out.2.2 (by omega)⟩
    have HO : Box (Only g w w5) := ⟨(Only.of_below HB.out.1).trans ho⟩
    have HT := Box.mk hT
    clear hT ho HB
    obtain ⟨r0, r1, r2⟩ := HR5.out.c3
    have rf := HR5.out.frozen
    go_wp2_with fail
    exact bodyPost_ret (v := zeroU) (by simp [results, Tryz.results169, go_sem, r0, r1, r2, rf]) rfl (by
      rw [HR2.out]
      exact ⟨rfl, ((HT.out.far (p := ⟨w.heap.size + 1, 0, none⟩) (by simp only; omega) _).far (p := ⟨w.heap.size + 1, 1, none⟩) (by simp only; omega) _).far (p := ⟨w.heap.size + 1, 2, none⟩) (by simp only; omega) _,
        ((HO.out.newCell (p := ⟨w.heap.size + 1, 0, none⟩) (by simp) _).newCell (p := ⟨w.heap.size + 1, 1, none⟩) (by simp) _).newCell (p := ⟨w.heap.size + 1, 2, none⟩) (by simp) _⟩)
  · have HR2 : Box (r = ((x, y, z), 0)) := ⟨by rw [HR.out]; unfold limU; rw [E.out]; rfl⟩
    obtain ⟨p0, p1, p2⟩ := HB.out.2.1.c3
    obtain ⟨r0, r1, r2⟩ := HB.out.2.2.c3
    have rf := HB.out.2.2.frozen
    go_wp2_with fail
    exact bodyPost_ret (v := uV (x, y, z)) (by simp [results, Tryz.results169, go_sem, r0, r1, r2, rf]) rfl (by
      rw [HR2.out]
      have HT : Blk w1 g 133 #[dv, .int .i64 0] := (HB.out.1.block g gz).trans HG.out
      exact ⟨rfl, ((HT.far (p := ⟨w.heap.size + 1, 0, none⟩) (by simp only; omega) _).far (p := ⟨w.heap.size + 1, 1, none⟩) (by simp only; omega) _).far (p := ⟨w.heap.size + 1, 2, none⟩) (by simp only; omega) _,
        (((Only.of_below HB.out.1).newCell (p := ⟨w.heap.size + 1, 0, none⟩) (by simp) _).newCell (p := ⟨w.heap.size + 1, 1, none⟩) (by simp) _).newCell (p := ⟨w.heap.size + 1, 2, none⟩) (by simp) _⟩)
end
section
open Go.RowKit FracM

abbrev VStr (x : ByteArray) (e : Ending) (_ : World) : Prop := e = .returned (.string x)
def lastLe (l : List ByteArray) (x : ByteArray) : Bool := match l.getLast? with | none => false | some p => leS x p
set_option maxRecDepth 100000 in
set_option maxHeartbeats 2000000 in
theorem pby_any (g : Nat) (en : Int) (ts : List Tok) (w : World) (h : PS w g en ts) (bv : Value) (l : List ByteArray) (P : Nat → Nat → Prop) (hl : SeqP w P 1 bv l.length (l.map Value.string)) :
    Calls Tryz.prog 228 #[.pointer (some ⟨g, 0, none⟩), bv] w (RetX g en w (byM en l ts) VStr) := by
  obtain ⟨A, n, rfl, hn⟩ := hl.form
  by_cases ht : kindT ts 0 = true
  · obtain ⟨t, r, rfl⟩ := kindT_cons ht
    by_cases h8 : 8 ≤ l.length
    · have hm : byM en l (t :: r) = bad en (t :: r) 4 := by unfold byM; rw [if_pos ht, if_pos h8]
      have h8' : (8 : Int) ≤ (l.length : Int) := by omega
      rw [hm]
      clear hm
      go_enter Tryz.func228, Tryz.ntmps228
      go_wp2_with fail
      refine (pkind_any g en 0 _ w h).mono ?_
      rintro e w1 ⟨rfl, rfl⟩
      rw [ht]
      go_wp2_with fail
      refine (pfail_any g en 4 _ _ h).mono ?_
      rintro e w1 ⟨rfl, rfl⟩
      go_wp2_with fail
      exact ⟨rfl, Only.of_below (Below.refl _ _), rfl⟩
    · have h8' : ¬ (8 : Int) ≤ (l.length : Int) := by omega
      obtain ⟨b, off, c, hb, hlt, hne, h1, h2, t0, t1, t2, t3, hr⟩ := h.cons
      obtain ⟨c0, c1⟩ := hb.c2
      have hz : (0 : Int) < ((r.length + 1 : Nat) : Int) := by omega
      have hm : byM en l (t :: r) = if lastLe l (bsL t.text) then bad en (t :: r) 8 else .ok (bsL t.text, r) := by unfold byM lastLe; rw [if_pos ht, if_neg h8]; rfl
      have hfd := tok_f1 (.int .i64 t.kind) (.string (bsL t.text)) (.int .i64 t.n) (.int .i64 (t.off : Int))
      rw [hm]
      clear hm hb hr
      rcases Nat.eq_zero_or_pos l.length with h0 | h0
      · obtain rfl : l = [] := List.eq_nil_of_length_eq_zero h0
        rw [if_neg (by simp [lastLe])]
        go_enter Tryz.func228, Tryz.ntmps228
        go_upto_region 5 with (go_at_call 198; refine (pkind_any g en 0 _ w h).mono ?_; rintro e w1 ⟨rfl, rfl⟩; rw [ht])
        go_quiet (fail)
        go_wp2_with fail
        refine (ptake_any g en t r _ (h.drewN nq)).mono ?_
        rintro e w1 ⟨rfl, hp, ho⟩
        have HP := Box.mk (And.intro hp ho)
        clear hp ho c0 c1 t0 t1 t2 t3 hz ht h h1 h2 hlt hne
        go_wp2_with fail
        go_ret
        exact ⟨(Only.of_below (below_drewN w nq)).trans HP.out.2, HP.out.1, rfl⟩
      · obtain ⟨k, hk⟩ : ∃ k, l.length = k + 1 := ⟨l.length - 1, by omega⟩
        obtain ⟨y, hy⟩ : ∃ y, l[k]? = some y := ⟨l[k]'(by omega), List.getElem?_eq_getElem _⟩
        obtain ⟨b', off', rfl, hb', m1⟩ := hl.at1 k (.string y) (by simp [hy])
        have HL : Box (lastLe l (bsL t.text) = leS (bsL t.text) y) := ⟨by unfold lastLe; rw [List.getLast?_eq_getElem?, hk, Nat.add_sub_cancel, hy]⟩
        rw [HL.out]
        rw [hk] at h8' ⊢
        have hj : 0 < ((k + 1 : Nat) : Int) := by omega
        have hj1 : IntKind.i64.wrap (((k + 1 : Nat) : Int) - 1) = (k : Int) := by rw [show ((k + 1 : Nat) : Int) - 1 = (k : Int) by omega]; exact W64_in (by omega) (by omega)
        have hj2 : (k : Int) < ((k + 1 : Nat) : Int) := by omega
        clear hl hy h0 hk h8 HL
        cases hq : leS (bsL t.text) y
        · have q : (Op.bytesLess (bsL t.text).toList y.toList || (bsL t.text).toList == y.toList) = false := hq
          rw [if_neg Bool.false_ne_true]
          clear hq
          go_enter Tryz.func228, Tryz.ntmps228
          go_upto_region 5 with (go_at_call 198; refine (pkind_any g en 0 _ w h).mono ?_; rintro e w1 ⟨rfl, rfl⟩; rw [ht])
          go_quiet (fail)
          have hps := h.drewN nq
          have hon : Only g w (w.drewN nq) := Only.of_below (below_drewN w nq)
          clear h c0 c1 t0 t1 t2 t3 m1
          generalize w.drewN nq = W at *
          go_wp2_with fail
          refine (ptake_any g en t r _ hps).mono ?_
          rintro e w1 ⟨rfl, hp, ho⟩
          have HP := Box.mk (And.intro hp (hon.trans ho))
          clear hp ho hz ht hps hon h1 h2 hlt hne
          go_wp2_with fail
          go_ret
          exact ⟨HP.out.2, HP.out.1, rfl⟩
        · have q : (Op.bytesLess (bsL t.text).toList y.toList || (bsL t.text).toList == y.toList) = true := hq
          rw [if_pos rfl]
          clear hq
          go_enter Tryz.func228, Tryz.ntmps228
          go_upto_region 5 with (go_at_call 198; refine (pkind_any g en 0 _ w h).mono ?_; rintro e w1 ⟨rfl, rfl⟩; rw [ht])
          go_quiet (fail)
          have hps := h.drewN nq
          have hon : Only g w (w.drewN nq) := Only.of_below (below_drewN w nq)
          clear h c0 c1 t0 t1 t2 t3 m1
          generalize w.drewN nq = W at *
          go_wp2_with fail
          refine (pfail_any g en 8 _ _ hps).mono ?_
          rintro e w1 ⟨rfl, rfl⟩
          go_wp2_with fail
          exact ⟨rfl, hon, rfl⟩
  · have hm : byM en l ts = bad en ts 2 := by unfold byM; rw [if_neg ht]
    rw [hm]
    have ht2 : kindT ts 0 = false := by simpa using ht
    clear hm
    go_enter Tryz.func228, Tryz.ntmps228
    go_wp2_with fail
    refine (pkind_any g en 0 _ w h).mono ?_
    rintro e w1 ⟨rfl, rfl⟩
    rw [ht2]
    go_wp2_with fail
    refine (pfail_any g en 2 ts _ h).mono ?_
    rintro e w1 ⟨rfl, rfl⟩
    go_wp2_with fail
    exact ⟨rfl, Only.of_below (Below.refl _ _), rfl⟩
end
section
open Go.RowKit FracM
end
end Go.Proofs.YtcifgobinleldaaGreatDoor
