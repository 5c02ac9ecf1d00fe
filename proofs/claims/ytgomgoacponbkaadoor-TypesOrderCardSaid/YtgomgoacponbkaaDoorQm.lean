/- Declarations in memory; limited and selected of package types. -/
import Derived.Test.YtgomgoacponbkaaDoorQl
import Derived.Test.YtgomgoacponbkaaDoorZc
import Derived.Test.YtgomgoacponbkaaDoorRa
set_option linter.unusedVariables false
set_option linter.unusedSimpArgs false
namespace Go.Proofs.YtgomgoacponbkaaDoor
open Go.RowKit FracM

def DxOk (w : World) (P : Nat → Nat → Prop) (x : Dx) : Prop := SeqP w P 2 x.lv x.dc.2.1.length (x.dc.2.1.flatMap labCells) ∧ x.dc.1.size ≤ maxLen ∧ I64 x.dc.2.2.1 ∧ I64 x.dc.2.2.2.1 ∧ I64 x.dc.2.2.2.2
def DecsAt (w : World) (P : Nat → Nat → Prop) (v : Value) (l : List Dx) : Prop := SeqP w P 12 v l.length (l.flatMap dcL) ∧ ∀ x ∈ l, DxOk w P x
theorem DecsAt.keep {w w' : World} {P : Nat → Nat → Prop} {v : Value} {l : List Dx} (h : DecsAt w P v l) (f : Agree P w w') : DecsAt w' P v l := ⟨h.1.keep f, fun x hx => ⟨(h.2 x hx).1.keep f, (h.2 x hx).2⟩⟩
theorem DecsAt.mono {w : World} {P Q : Nat → Nat → Prop} {v : Value} {l : List Dx} (h : DecsAt w P v l) (hq : ∀ b e, b < w.heap.size → P b e → Q b e) : DecsAt w Q v l := ⟨h.1.mono hq, fun x hx => ⟨(h.2 x hx).1.mono hq, (h.2 x hx).2⟩⟩
def dcs (l : List Dx) : List Dc := l.map (·.dc)
abbrev uV (u : U3) : Value := .agg #[.int .i64 u.1, .int .i64 u.2.1, .int .i64 u.2.2]
abbrev uC (u : U3) : Array Value := #[.int .i64 u.1, .int .i64 u.2.1, .int .i64 u.2.2]
def uL (u : U3) : List Value := [.int .i64 u.1, .int .i64 u.2.1, .int .i64 u.2.2]
abbrev At12 (w : World) (b o : Nat) (x : Dx) : Prop := w.cell? ⟨b, o, none⟩ = some (.string x.dc.1) ∧ w.cell? ⟨b, o + 1, none⟩ = some x.lv ∧ w.cell? ⟨b, o + 2, none⟩ = some (.int .i64 x.dc.2.2.1) ∧ w.cell? ⟨b, o + 3, none⟩ = some (.int .i64 x.dc.2.2.2.1) ∧ w.cell? ⟨b, o + 4, none⟩ = some (.int .i64 x.dc.2.2.2.2) ∧ w.cell? ⟨b, o + 5, none⟩ = some (.int .i64 (x.o 0)) ∧ w.cell? ⟨b, o + 6, none⟩ = some (.int .i64 (x.o 1)) ∧ w.cell? ⟨b, o + 7, none⟩ = some (.int .i64 (x.o 2)) ∧ w.cell? ⟨b, o + 8, none⟩ = some (.int .i64 (x.o 3)) ∧ w.cell? ⟨b, o + 9, none⟩ = some (.int .i64 (x.o 4)) ∧ w.cell? ⟨b, o + 10, none⟩ = some (.int .i64 (x.o 5)) ∧ w.cell? ⟨b, o + 11, none⟩ = some (.int .i64 (x.o 6))
theorem DecsAt.at_ {w : World} {P : Nat → Nat → Prop} {A : Option Addr} {n c : Nat} {l : List Dx} (h : DecsAt w P (.slice A n c) l) (i : Nat) (x : Dx) (hi : l[i]? = some x) :
    ∃ b off, A = some ⟨b, off, none⟩ ∧ b < w.heap.size ∧ (∃ z, P b z) ∧ At12 w b (off + i * 12) x := by
  have hlt : i < l.length := (List.getElem?_eq_some_iff.1 hi).1
  obtain ⟨⟨_, A', c', hv, _, _, h2⟩, _⟩ := h
  cases hv
  obtain ⟨b, off, rfl, hb, hp, hx⟩ := h2 (by omega)
  refine ⟨b, off, rfl, hb, ⟨_, hp⟩, ?_⟩
  have g := fun j (hj : j < 12) => flat_get dcL 12 (fun _ => rfl) l i j _ hi hj
  refine ⟨?_, ?_, ?_, ?_, ?_, ?_, ?_, ?_, ?_, ?_, ?_, ?_⟩
  · exact hx _ _ ((g 0 (by omega)).trans rfl)
  · rw [Nat.add_assoc]; exact hx _ _ ((g 1 (by omega)).trans rfl)
  · rw [Nat.add_assoc]; exact hx _ _ ((g 2 (by omega)).trans rfl)
  · rw [Nat.add_assoc]; exact hx _ _ ((g 3 (by omega)).trans rfl)
  · rw [Nat.add_assoc]; exact hx _ _ ((g 4 (by omega)).trans rfl)
  · rw [Nat.add_assoc]; exact hx _ _ ((g 5 (by omega)).trans rfl)
  · rw [Nat.add_assoc]; exact hx _ _ ((g 6 (by omega)).trans rfl)
  · rw [Nat.add_assoc]; exact hx _ _ ((g 7 (by omega)).trans rfl)
  · rw [Nat.add_assoc]; exact hx _ _ ((g 8 (by omega)).trans rfl)
  · rw [Nat.add_assoc]; exact hx _ _ ((g 9 (by omega)).trans rfl)
  · rw [Nat.add_assoc]; exact hx _ _ ((g 10 (by omega)).trans rfl)
  · rw [Nat.add_assoc]; exact hx _ _ ((g 11 (by omega)).trans rfl)
theorem DecsAt.len {w : World} {P : Nat → Nat → Prop} {A : Option Addr} {n c : Nat} {l : List Dx} (h : DecsAt w P (.slice A n c) l) : n = l.length ∧ n ≤ 9223372036854775807 := by
  obtain ⟨⟨_, _, _, hv, h1, h2, _⟩, _⟩ := h
  cases hv
  unfold maxLen at h2
  exact ⟨rfl, by omega⟩
theorem blk12 {W : World} {g : Nat} {t : TypeId} {x : Dx} (h : Blk W g t (dcC x)) : At12 W g 0 x := by
  unfold Blk at h
  refine ⟨?_, ?_, ?_, ?_, ?_, ?_, ?_, ?_, ?_, ?_, ?_, ?_⟩ <;> simp [World.cell?, h]
/-- the frame of a method of typing: all below base is as it stands here -/
structure S2 (g : Nat) (w W : World) (P : Nat → Nat → Prop) (d : Nd) (ks : List Tree) (mv bv kv dv : Value) (D : List Dx) (er : Int) : Prop where
  only : Only g w W
  T : Blk W g 72 #[dv, .int .i64 er]
  Q : Blk W w.heap.size 38 (ndC d mv bv kv)
  R : Blk W (w.heap.size + 1) 23 #[.int .i64 0, .int .i64 0, .int .i64 0]
  nod : Nod W P d ks mv bv kv
  decs : DecsAt W P dv D
theorem S2.start {g : Nat} {w : World} {P : Nat → Nat → Prop} {d : Nd} {ks : List Tree} {mv bv kv dv : Value} {D : List Dx} {er : Int} (hg : Blk w g 72 #[dv, .int .i64 er]) (hT : TreeAt w P (.node d ks) (mv, bv, kv)) (hD : DecsAt w P dv D) : S2 g w ((w.alloc (.cells (ndC d mv bv kv) 38)).alloc (.cells #[.int .i64 0, .int .i64 0, .int .i64 0] 23)) P d ks mv bv kv dv D er :=
  ⟨Only.of_below (bel2 _ _ _), (hg.alloc _).alloc _, (Blk.new _ _ _).alloc _, Blk.newAt _ _ (by simp), (hT.belo (bel2 _ _ _)).nod, hD.keep (Agree.of_below (bel2 _ _ _))⟩
theorem S2.below {g : Nat} {w W W' : World} {P : Nat → Nat → Prop} {d : Nd} {ks : List Tree} {mv bv kv dv : Value} {D : List Dx} {er : Int} (h : S2 g w W P d ks mv bv kv dv D er) (hb : Below W.heap.size W W') : S2 g w W' P d ks mv bv kv dv D er :=
  ⟨h.only.trans (Only.of_below hb), h.T.below hb, h.Q.below hb, h.R.below hb, h.nod.below hb, h.decs.keep (Agree.of_below hb)⟩
/-- blocks from base on may turn -/
theorem S2.from_ {g : Nat} {w W W' : World} {P : Nat → Nat → Prop} {d : Nd} {ks : List Tree} {mv bv kv dv : Value} {D : List Dx} {er : Int} (h : S2 g w W P d ks mv bv kv dv D er) (hg : g < w.heap.size) (hP : ∀ b e, P b e → b < w.heap.size) (hb : Below (w.heap.size + 2) W W') : S2 g w W' P d ks mv bv kv dv D er := by
  have hz := h.R.lt
  refine ⟨⟨hb.os.trans h.only.os, hb.tape.trans h.only.tape, hb.output.trans h.only.output, Nat.le_trans h.only.size hb.size, fun k hk hn => (hb.block k (by omega)).trans (h.only.block k hk hn)⟩, (hb.block _ (by omega)).trans h.T, (hb.block _ (by omega)).trans h.Q, (hb.block _ (by omega)).trans h.R, h.nod.keep (Agree.of_lt hb fun b e hp => by have := hP b e hp; omega), h.decs.keep (Agree.of_lt hb fun b e hp => by have := hP b e hp; omega)⟩
theorem S2.next {g : Nat} {w W W' : World} {P : Nat → Nat → Prop} {d : Nd} {ks : List Tree} {mv bv kv dv : Value} {D : List Dx} {er er' : Int} (h : S2 g w W P d ks mv bv kv dv D er) (hg : g < w.heap.size) (hP : ∀ b e, P b e → b ≠ g) (ho : Only g W W') (hT : Blk W' g 72 #[dv, .int .i64 er']) : S2 g w W' P d ks mv bv kv dv D er' :=
  ⟨h.only.trans ho, hT, ho.blk h.Q (by omega), ho.blk h.R (by omega), h.nod.keep (Agree.of_only ho hP), h.decs.keep (Agree.of_only ho hP)⟩
/-- the result is stored and returned -/
theorem S2.fin {g : Nat} {w W : World} {P : Nat → Nat → Prop} {d : Nd} {ks : List Tree} {mv bv kv dv : Value} {D : List Dx} {er : Int} (h : S2 g w W P d ks mv bv kv dv D er) (hg : g < w.heap.size) (v : Value) (u0 u1 u2 : Value) : RetT g v #[dv, .int .i64 er] w (.returned v) (((W.setCell ⟨w.heap.size + 1, 0, none⟩ u0).setCell ⟨w.heap.size + 1, 1, none⟩ u1).setCell ⟨w.heap.size + 1, 2, none⟩ u2) :=
  ⟨rfl, ((h.T.far (p := ⟨w.heap.size + 1, 0, none⟩) (by simp only; omega) _).far (p := ⟨w.heap.size + 1, 1, none⟩) (by simp only; omega) _).far (p := ⟨w.heap.size + 1, 2, none⟩) (by simp only; omega) _,
   ((h.only.newCell (p := ⟨w.heap.size + 1, 0, none⟩) (by simp) u0).newCell (p := ⟨w.heap.size + 1, 1, none⟩) (by simp) u1).newCell (p := ⟨w.heap.size + 1, 2, none⟩) (by simp) u2⟩
theorem okU_inU (u : U3) : inU u.1 u.2.1 u.2.2 = okU u := by
  unfold inU okU in3 inR
  simp only [Bool.and_assoc]
set_option maxHeartbeats 1000000 in
theorem limited_any (g : Nat) (dv : Value) (u : U3) (w : World) (hg : Blk w g 72 #[dv, .int .i64 0]) : Calls Tryd.prog 71 #[.pointer (some ⟨g, 0, none⟩), uV u] w (RetT g (uV (limU u).1) #[dv, .int .i64 (limU u).2] w) := by
  obtain ⟨x, y, z⟩ := u
  have gz := hg.lt
  have HG := Box.mk hg
  clear hg
  obtain ⟨q, E⟩ : ∃ q, Box (okU (x, y, z) = q) := ⟨_, ⟨rfl⟩⟩
  obtain ⟨r, hr⟩ : ∃ r, r = limU (x, y, z) := ⟨_, rfl⟩
  rw [← hr]
  have HR := Box.mk hr
  clear hr
  go_enter Tryd.func71, Tryd.ntmps71
  go_wp2_with fail
  refine (uv_any _ _ _ _).mono ?_
  rintro e w1 ⟨rfl, hb⟩
  rw [okU_inU (x, y, z), E.out]
  have HB : Hid (Below w.heap.size w w1 ∧ Blk w1 w.heap.size 23 #[.int .i64 x, .int .i64 y, .int .i64 z] ∧ Blk w1 (w.heap.size + 1) 23 #[.int .i64 0, .int .i64 0, .int .i64 0]) := ⟨bthen (bel2 _ _ _) hb (Nat.le_refl _), ((Blk.new _ _ _).alloc _).below hb, (Blk.newAt _ _ (by simp)).below hb⟩
  clear hb
  cases q
  · have HR2 : Box (r = (u0, 4)) := ⟨by rw [HR.out]; unfold limU; rw [E.out]; rfl⟩
    go_wp2_with fail
    refine (fail_any g _ _ _ ((HB.out.1.block g gz).trans HG.out)).mono ?_
    rintro e w5 ⟨rfl, hT, ho⟩
    have hg1 := HB.out.2.2.lt
    have HR5 : Box (Blk w5 (w.heap.size + 1) 23 #[.int .i64 0, .int .i64 0, .int .i64 0]) := ⟨ho.blk HB.out.2.2 (by omega)⟩
    have HO : Box (Only g w w5) := ⟨(Only.of_below HB.out.1).trans ho⟩
    have HT := Box.mk hT
    clear hT ho HB
    obtain ⟨r0, r1, r2⟩ := HR5.out.c3
    have rf := HR5.out.frozen
    go_wp2_with fail
    exact bodyPost_ret (v := zeroU) (by simp [results, Tryd.results71, go_sem, r0, r1, r2, rf]) rfl (by
      rw [HR2.out]
      exact ⟨rfl, ((HT.out.far (p := ⟨w.heap.size + 1, 0, none⟩) (by simp only; omega) _).far (p := ⟨w.heap.size + 1, 1, none⟩) (by simp only; omega) _).far (p := ⟨w.heap.size + 1, 2, none⟩) (by simp only; omega) _,
        ((HO.out.newCell (p := ⟨w.heap.size + 1, 0, none⟩) (by simp) _).newCell (p := ⟨w.heap.size + 1, 1, none⟩) (by simp) _).newCell (p := ⟨w.heap.size + 1, 2, none⟩) (by simp) _⟩)
  · have HR2 : Box (r = ((x, y, z), 0)) := ⟨by rw [HR.out]; unfold limU; rw [E.out]; rfl⟩
    obtain ⟨p0, p1, p2⟩ := HB.out.2.1.c3
    obtain ⟨r0, r1, r2⟩ := HB.out.2.2.c3
    have rf := HB.out.2.2.frozen
    go_wp2_with fail
    exact bodyPost_ret (v := uV (x, y, z)) (by simp [results, Tryd.results71, go_sem, r0, r1, r2, rf]) rfl (by
      rw [HR2.out]
      have HT : Blk w1 g 72 #[dv, .int .i64 0] := (HB.out.1.block g gz).trans HG.out
      exact ⟨rfl, ((HT.far (p := ⟨w.heap.size + 1, 0, none⟩) (by simp only; omega) _).far (p := ⟨w.heap.size + 1, 1, none⟩) (by simp only; omega) _).far (p := ⟨w.heap.size + 1, 2, none⟩) (by simp only; omega) _,
        (((Only.of_below HB.out.1).newCell (p := ⟨w.heap.size + 1, 0, none⟩) (by simp) _).newCell (p := ⟨w.heap.size + 1, 1, none⟩) (by simp) _).newCell (p := ⟨w.heap.size + 1, 2, none⟩) (by simp) _⟩)
end Go.Proofs.YtgomgoacponbkaaDoor
