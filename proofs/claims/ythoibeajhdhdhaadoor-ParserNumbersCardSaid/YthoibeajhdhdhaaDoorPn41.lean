/- Contracts, packed: Jh Jn Js Fa. -/
import Derived.Test.YthoibeajhdhdhaaDoorPn1
import Derived.Test.YthoibeajhdhdhaaDoorPn2
import Derived.Test.YthoibeajhdhdhaaDoorPn22
import Derived.Test.YthoibeajhdhdhaaDoorPn25
import Derived.Test.YthoibeajhdhdhaaDoorPn39
import Derived.Test.YthoibeajhdhdhaaDoorPn40
import Derived.RegionTactic
import Derived.ChangeAlike
set_option linter.unusedVariables false
set_option linter.unusedSimpArgs false
namespace Go.Proofs.YthoibeajhdhdhaaDoor
section
open Go.RowKit FracM

def live1 : List UInt8 := [115, 117, 109, 32, 98, 121, 32, 40, 122, 111, 110, 101, 41, 32, 40, 114, 101, 113, 123, 99, 111, 100, 101, 94, 61, 34, 53, 34, 125, 46, 114, 97, 116, 101, 40, 54, 48, 41, 41, 32, 47, 32, 50]
def live2 : List UInt8 := [97, 46, 107, 116, 104, 40, 51, 44, 52, 41]
def liveP : List UInt8 := [115, 117, 109, 32, 98, 121, 40, 122, 111, 110, 101, 41, 40, 114, 101, 113, 123, 99, 111, 100, 101, 94, 61, 34, 53, 34, 125, 46, 114, 97, 116, 101, 40, 54, 48, 41, 41, 47, 50]
def liveT : Tree := .node ⟨3, 3, 0, 0, 0, 0, 0, ⟨#[]⟩, [], []⟩ [.node ⟨2, 0, 0, 0, 0, 0, 0, ⟨#[]⟩, [], [⟨#[122, 111, 110, 101]⟩]⟩ [.node ⟨1, 6, 60, 0, 0, 0, 0, ⟨#[114, 101, 113]⟩, [(⟨#[99, 111, 100, 101]⟩, 2, ⟨#[53]⟩)], []⟩ []], .node ⟨0, 0, 0, 0, 0, 2, 1, ⟨#[]⟩, [], []⟩ []]
theorem live_p1 : parseT live1 = (liveT, 0, 0) := by kernel_rfl
theorem live_p2 : parseT live2 = (zeroT, 8, 5) := by kernel_rfl
theorem live_pr : printT liveT = (liveP, 0) := by kernel_rfl
/-- Parse at a text whose parse is known -/
theorem parse_at (s : ByteArray) (T : Tree) (a er : Int) (w : World) (hs : s.size ≤ maxLen) (hw : WordsV w) (hp : parseT (lst s) = (T, a, er)) :
    Calls Tryd.prog 8 #[.string s] w fun e w' => ∃ mv bv kv, e = .returned (.tuple #[.agg (ndC T.d mv bv kv), .int .i64 a, .int .i64 er]) ∧ TreeAt w' (fun b _ => w.heap.size ≤ b) T (mv, bv, kv) ∧ Below w.heap.size w w' :=
  (pparse_any s w hs hw).mono fun e w' ⟨mv, bv, kv, he, hT, hb⟩ => ⟨mv, bv, kv, by rw [he, hp], by rw [hp] at hT; exact hT, hb⟩
theorem LibP.v {w : World} (h : LibP w) : WordsV w := ⟨h.grp, h.fn, h.mat, h.opr⟩
theorem print_at (T : Tree) (l : List UInt8) (er : Int) (P : Nat → Nat → Prop) (w : World) (s : Sl) (hT : TreeAt w P T s) (hl : LibP w) (hp : printT T = (l, er)) : Calls Tryd.prog 7 #[.agg (ndC T.d s.1 s.2.1 s.2.2)] w (RetB (.tuple #[.string (bsL l), .int .i64 er]) w) :=
  (pprint_any T P w s hT hl).mono fun e w' ⟨he, hb⟩ => ⟨by rw [he, hp], hb⟩
set_option maxHeartbeats 4000000 in
set_option maxRecDepth 100000 in
theorem lives_true (w : World) (hl : LibP w) : Calls Tryd.prog 11 #[] w (RetB (.bool true) w) := by
  have HL := Box.mk hl
  clear hl
  go_enter Tryd.func11, Tryd.ntmps11
  go_wp2_with fail
  refine (parse_at _ liveT 0 0 _ (by unfold maxLen; decide +kernel) HL.out.v live_p1).mono ?_
  rintro e w1 ⟨mv, bv, kv, rfl, hT, hb⟩
  have HPR : Box (printT liveT = (liveP, 0)) := ⟨live_pr⟩
  obtain ⟨T, hTe⟩ : ∃ T, liveT = T := ⟨_, rfl⟩
  rw [hTe] at hT HPR ⊢
  clear hTe
  obtain ⟨d, ks⟩ := T
  obtain ⟨A1, n1, rfl, l1⟩ := hT.nod.ms.form
  obtain ⟨A2, n2, rfl, l2⟩ := hT.nod.bys.form
  obtain ⟨A3, n3, rfl, l3⟩ := hT.nod.kform
  have HB := Box.mk hb
  have HT := Box.mk (hT.belo (bel1 w1 (.cells (ndC d (.slice A1 d.ms.length n1) (.slice A2 d.bys.length n2) (.slice A3 ks.length n3)) exT)))
  have HK : Box (Blk (w1.alloc (.cells (ndC d (.slice A1 d.ms.length n1) (.slice A2 d.bys.length n2) (.slice A3 ks.length n3)) exT)) w1.heap.size exT (ndC d (.slice A1 d.ms.length n1) (.slice A2 d.bys.length n2) (.slice A3 ks.length n3))) := ⟨Blk.new _ _ _⟩
  have HB2 : Box (Below w.heap.size w (w1.alloc (.cells (ndC d (.slice A1 d.ms.length n1) (.slice A2 d.bys.length n2) (.slice A3 ks.length n3)) exT))) := ⟨bthen hb (bel1 _ _) (Nat.le_refl _)⟩
  clear hT hb HB
  simp only [Tree.d]
  go_upto_region 2 with (fail)
  generalize w1.heap.size = g at *
  generalize w1.alloc (.cells (ndC d (.slice A1 d.ms.length n1) (.slice A2 d.bys.length n2) (.slice A3 ks.length n3)) exT) = W at *
  obtain ⟨c0, c1, c2, c3, c4, c5, c6, c7, c8, c9, c10⟩ := blk11 HK.out
  simp only [Nat.zero_add] at c1 c2 c3 c4 c5 c6 c7 c8 c9 c10
  go_wp2_with fail
  refine (print_at (.node d ks) liveP 0 _ _ (_, _, _) HT.out (HL.out.below HB2.out) HPR.out).mono ?_
  rintro e w2 ⟨rfl, hb⟩
  have HB3 : Box (Below w.heap.size w w2) := ⟨bthen HB2.out hb (Nat.le_refl _)⟩
  clear hb c0 c1 c2 c3 c4 c5 c6 c7 c8 c9 c10 HT HK HB2 HPR
  obtain ⟨z, hz⟩ : ∃ z, bsL liveP = z := ⟨_, rfl⟩
  have hz1 : (z.toList == [115, 117, 109, 32, 98, 121, 40, 122, 111, 110, 101, 41, 40, 114, 101, 113, 123, 99, 111, 100, 101, 94, 61, 34, 53, 34, 125, 46, 114, 97, 116, 101, 40, 54, 48, 41, 41, 47, 50]) = true := by rw [← hz]; decide +kernel
  rw [hz]
  clear hz
  go_wp2_with fail
  refine (parse_at _ zeroT 8 5 _ (by unfold maxLen; decide +kernel) (HL.out.below HB3.out).v live_p2).mono ?_
  rintro e w3 ⟨mv, bv, kv, rfl, hT, hb⟩
  have HB4 : Box (Below w.heap.size w w3) := ⟨bthen HB3.out hb (Nat.le_refl _)⟩
  clear hb
  obtain ⟨T, hTe⟩ : ∃ T, zeroT = T := ⟨_, rfl⟩
  rw [hTe] at hT ⊢
  clear hTe
  obtain ⟨d, ks⟩ := T
  obtain ⟨A1, n1, rfl, l1⟩ := hT.nod.ms.form
  obtain ⟨A2, n2, rfl, l2⟩ := hT.nod.bys.form
  obtain ⟨A3, n3, rfl, l3⟩ := hT.nod.kform
  clear hT
  simp only [Tree.d]
  go_upto_region 4 with (fail)
  have HB5 : Box (Below w.heap.size w (w3.alloc (.cells (ndC d (.slice A1 d.ms.length n1) (.slice A2 d.bys.length n2) (.slice A3 ks.length n3)) exT))) := ⟨bthen HB4.out (bel1 _ _) (Nat.le_refl _)⟩
  generalize w3.alloc (.cells (ndC d (.slice A1 d.ms.length n1) (.slice A2 d.bys.length n2) (.slice A3 ks.length n3)) exT) = W5 at *
  go_wp2_with fail
  go_ret
  exact ⟨rfl, HB5.out⟩
end
section
open Go.RowKit FracM

theorem SeqP.mat {w : World} {P : Nat → Nat → Prop} {A : Option Addr} {n c : Nat} {l : List Mat} (h : SeqP w P 3 (.slice A n c) n (l.flatMap matCells)) (k : Nat) (x : Mat) (hx : l[k]? = some x) :
    ∃ b off, A = some ⟨b, off, none⟩ ∧ w.cell? ⟨b, off + k * 3, none⟩ = some (.string x.1) ∧ w.cell? ⟨b, off + k * 3 + 1, none⟩ = some (.int .i64 x.2.1) ∧ w.cell? ⟨b, off + k * 3 + 2, none⟩ = some (.string x.2.2) := by
  obtain ⟨hl, A', c', hv, h1, h2, h3⟩ := h
  cases hv
  have hlt := (List.getElem?_eq_some_iff.1 hx).1
  have g := fun j hj => flat_get matCells 3 (fun _ => rfl) l k j x hx hj
  have hm : 0 < n := by
    rcases Nat.eq_zero_or_pos n with h0 | h0
    · subst h0
      have g0 := g 0 (by omega)
      rw [show l.flatMap matCells = [] from List.eq_nil_of_length_eq_zero (by rw [hl])] at g0
      simp [matCells] at g0
    · exact h0
  obtain ⟨b, off, rfl, hb, hp, hc⟩ := h3 hm
  refine ⟨b, off, rfl, ?_, ?_, ?_⟩
  · exact hc _ _ ((g 0 (by omega)).trans rfl)
  · rw [Nat.add_assoc]; exact hc _ _ ((g 1 (by omega)).trans rfl)
  · rw [Nat.add_assoc]; exact hc _ _ ((g 2 (by omega)).trans rfl)
end
section
open Go.RowKit FracM

def pbN (n : Nat) : Nd := ⟨3, (n : Int), 0, 0, 0, 0, 0, ⟨#[]⟩, [], []⟩
theorem bin_at {w : World} {n : Nat} (hn : n ≤ 10) {e1 e2 : Nd} {es1 es2 : List Tree} {m1 v1 k1 m2 v2 k2 : Value} (h1 : TreeAt w AnyP (.node e1 es1) (m1, v1, k1)) (h2 : TreeAt w AnyP (.node e2 es2) (m2, v2, k2)) :
    TreeAt (w.alloc (.cells (kidC e1 m1 v1 k1 e2 m2 v2 k2) 29)) AnyP (.node (pbN n) [.node e1 es1, .node e2 es2]) (nilV, nilV, .slice (some ⟨w.heap.size, 0, none⟩) 2 2) := by
  have hkb : Blk (w.alloc (.cells (kidC e1 m1 v1 k1 e2 m2 v2 k2) 29)) w.heap.size 29 (kidC e1 m1 v1 k1 e2 m2 v2 k2) := Blk.new _ _ _
  have hb := bel1 w (.cells (kidC e1 m1 v1 k1 e2 m2 v2 k2) 29)
  generalize w.alloc (.cells (kidC e1 m1 v1 k1 e2 m2 v2 k2) 29) = W at *
  refine Nod.tree (d := pbN n) (ks := [.node e1 es1, .node e2 es2]) ⟨binOk n hn (.node e1 es1) (.node e2 es2), SeqP.nil _ _ _, SeqP.nil _ _ _, [(m1, v1, k1), (m2, v2, k2)], rfl, ?_, ?_⟩
  · have := SeqP.of_blk (P := AnyP) (n := 2) (size := 11) hkb rfl (by omega) trivial
    simpa [ndL, Tree.d] using this
  · intro i t' c h3 h4
    match i, h3, h4 with
    | 0, h3, h4 =>
      simp at h3 h4
      subst h3 h4
      exact h1.belo hb
    | 1, h3, h4 =>
      simp at h3 h4
      subst h3 h4
      exact h2.belo hb
    | j + 2, h3, h4 => simp at h3
/-- a variable that holds a tree -/
structure TBp (W : World) (g : Nat) (t : Tree) (s : Sl) : Prop where
  box : Blk W g 29 (ndC t.d s.1 s.2.1 s.2.2)
  tr : TreeAt W AnyP t s
theorem TBp.next {W W' : World} {g : Nat} {t : Tree} {s : Sl} (h : TBp W g t s) (hb : Below W.heap.size W W') : TBp W' g t s := ⟨h.box.below hb, (h.tr.low.keep (Agree.of_below hb)).mono fun _ _ _ _ => trivial⟩
theorem TBp.new {W : World} {t : Tree} {s : Sl} (h : TreeAt W AnyP t s) : TBp (W.alloc (.cells (ndC t.d s.1 s.2.1 s.2.2) 29)) W.heap.size t s := ⟨Blk.new _ _ _, (h.low.keep (Agree.of_below (bel1 _ _))).mono fun _ _ _ _ => trivial⟩
abbrev opsC : Array Value := #[.string ⟨#[43]⟩, .string ⟨#[45]⟩, .string ⟨#[42]⟩, .string ⟨#[47]⟩]
abbrev pxC (x : UInt8) : Array Value := #[.int .i64 1, .int .i64 0, .int .i64 0, .int .i64 0, .int .i64 0, .int .i64 0, .int .i64 0, .string ⟨#[x]⟩, .slice none 0 0, .slice none 0 0, .slice none 0 0]
structure PA (ty : Nat) (W : World) (gl ga gb gc : Nat) : Prop where
  l : Blk W gl ty opsC
  a : Blk W ga 29 (pxC 97)
  b : Blk W gb 29 (pxC 98)
  c : Blk W gc 29 (pxC 99)
theorem PA.next {ty : Nat} {W W' : World} {gl ga gb gc : Nat} (h : PA ty W gl ga gb gc) (hb : Below W.heap.size W W') : PA ty W' gl ga gb gc := ⟨h.l.below hb, h.a.below hb, h.b.below hb, h.c.below hb⟩
def wPA (w : World) (ty : Nat) : World := (((w.alloc (.cells opsC ty)).alloc (.cells (pxC 97) 29)).alloc (.cells (pxC 98) 29)).alloc (.cells (pxC 99) 29)
theorem PA.new (w : World) (ty : Nat) : PA ty (wPA w ty) w.heap.size (w.heap.size + 1) (w.heap.size + 1 + 1) (w.heap.size + 1 + 1 + 1) ∧ Below w.heap.size w (wPA w ty) ∧ (wPA w ty).heap.size = w.heap.size + 4 := by
  unfold wPA
  have h1 : Blk (w.alloc (.cells opsC ty)) w.heap.size ty opsC := Blk.new _ _ _
  have z1 : (w.alloc (.cells opsC ty)).heap.size = w.heap.size + 1 := by simp
  have b1 := bel1 w (.cells opsC ty)
  generalize w.alloc (.cells opsC ty) = w1 at *
  have h2 : Blk (w1.alloc (.cells (pxC 97) 29)) w1.heap.size 29 (pxC 97) := Blk.new _ _ _
  have z2 : (w1.alloc (.cells (pxC 97) 29)).heap.size = w1.heap.size + 1 := by simp
  have b2 := bel1 w1 (.cells (pxC 97) 29)
  generalize w1.alloc (.cells (pxC 97) 29) = w2 at *
  have h3 : Blk (w2.alloc (.cells (pxC 98) 29)) w2.heap.size 29 (pxC 98) := Blk.new _ _ _
  have z3 : (w2.alloc (.cells (pxC 98) 29)).heap.size = w2.heap.size + 1 := by simp
  have b3 := bel1 w2 (.cells (pxC 98) 29)
  generalize w2.alloc (.cells (pxC 98) 29) = w3 at *
  have h4 : Blk (w3.alloc (.cells (pxC 99) 29)) w3.heap.size 29 (pxC 99) := Blk.new _ _ _
  have z4 : (w3.alloc (.cells (pxC 99) 29)).heap.size = w3.heap.size + 1 := by simp
  have b4 := bel1 w3 (.cells (pxC 99) 29)
  generalize w3.alloc (.cells (pxC 99) 29) = w4 at *
  rw [show w.heap.size + 1 + 1 + 1 = w3.heap.size by omega, show w.heap.size + 1 + 1 = w2.heap.size by omega, show w.heap.size + 1 = w1.heap.size by omega]
  exact ⟨⟨((h1.below b2).below b3).below b4, (h2.below b3).below b4, h3.below b4, h4⟩, bthen (bthen (bthen b1 b2 (by omega)) b3 (by omega)) b4 (by omega), by omega⟩
abbrev k2 (g : Nat) : Value := .slice (some ⟨g, 0, none⟩) 2 2
/-- the law's state: the operators' slice and the trees' variables -/
structure Ss (ty : Nat) (w W : World) (g0 : Nat) (l : List (Nat × Tree × Sl)) : Prop where
  below : Below w.heap.size w W
  ops : Blk W g0 ty opsC
  tb : ∀ x ∈ l, TBp W x.1 x.2.1 x.2.2
theorem Ss.next {ty : Nat} {w W W' : World} {g0 : Nat} {l : List (Nat × Tree × Sl)} (h : Ss ty w W g0 l) (hb : Below W.heap.size W W') : Ss ty w W' g0 l := ⟨bthen h.below hb (Nat.le_refl _), h.ops.below hb, fun x hx => (h.tb x hx).next hb⟩
theorem Ss.drew {ty : Nat} {w W : World} {g0 : Nat} {l : List (Nat × Tree × Sl)} (h : Ss ty w W g0 l) : Ss ty w W.drew g0 l := h.next (below_drewN W 1)
theorem Ss.cons {ty : Nat} {w W W1 : World} {g0 : Nat} {l : List (Nat × Tree × Sl)} {P : Nat → Nat → Prop} {T : Tree} {mv bv kv : Value} (h : Ss ty w W g0 l) (hT : TreeAt W1 P T (mv, bv, kv)) (hb : Below W.heap.size W W1) : Ss ty w (W1.alloc (.cells (ndC T.d mv bv kv) 29)) g0 ((W1.heap.size, T, (mv, bv, kv)) :: l) := by
  have h2 := (h.next hb).next (bel1 W1 (.cells (ndC T.d mv bv kv) 29))
  have hn : TBp (W1.alloc (.cells (ndC T.d mv bv kv) 29)) W1.heap.size T (mv, bv, kv) := TBp.new (s := (mv, bv, kv)) (hT.mono fun _ _ _ _ => trivial)
  refine ⟨h2.below, h2.ops, fun x hx => ?_⟩
  rcases List.mem_cons.1 hx with rfl | hx
  · exact hn
  · exact h2.tb x hx
theorem Ss.put {ty : Nat} {w W0 W1 : World} {g0 : Nat} {l : List (Nat × Tree × Sl)} {P : Nat → Nat → Prop} {T : Tree} {d : Nd} {ks : List Tree} {mv bv kv a0 a1 a2 a3 a4 a5 a6 a7 a8 a9 a10 : Value} (h : Ss ty w W0 g0 l) (hb : Below W0.heap.size W0 W1) (hz : Blk W1 W0.heap.size 29 #[a0, a1, a2, a3, a4, a5, a6, a7, a8, a9, a10]) (hTe : T = .node d ks) (hT : TreeAt W1 P (.node d ks) (mv, bv, kv)) (hP : ∀ b (e : Nat), P b e → b ≠ W0.heap.size) :
    Ss ty w (put11 W1 W0.heap.size (.int .i64 d.kind) (.int .i64 d.fn) (.int .i64 d.win) (.int .i64 d.off) (.int .i64 d.k) (.int .i64 d.num) (.int .i64 d.den) (.string d.name) mv bv kv) g0 ((W0.heap.size, T, (mv, bv, kv)) :: l) := by
  subst hTe
  have ho : Only W0.heap.size W1 (put11 W1 W0.heap.size (.int .i64 d.kind) (.int .i64 d.fn) (.int .i64 d.win) (.int .i64 d.off) (.int .i64 d.k) (.int .i64 d.num) (.int .i64 d.den) (.string d.name) mv bv kv) := put11_only ..
  have hbl : Blk (put11 W1 W0.heap.size (.int .i64 d.kind) (.int .i64 d.fn) (.int .i64 d.win) (.int .i64 d.off) (.int .i64 d.k) (.int .i64 d.num) (.int .i64 d.den) (.string d.name) mv bv kv) W0.heap.size 29 (ndC d mv bv kv) := put11_blk hz
  generalize put11 W1 W0.heap.size (.int .i64 d.kind) (.int .i64 d.fn) (.int .i64 d.win) (.int .i64 d.off) (.int .i64 d.k) (.int .i64 d.num) (.int .i64 d.den) (.string d.name) mv bv kv = W' at *
  have h2 := h.next (hb.trans (ho.below (Nat.le_refl _) hb.size))
  refine ⟨h2.below, h2.ops, fun x hx => ?_⟩
  rcases List.mem_cons.1 hx with rfl | hx
  · exact ⟨hbl, (hT.keep (Agree.of_only ho hP)).mono fun _ _ _ _ => trivial⟩
  · exact h2.tb x hx
end
section
open Go.RowKit FracM

set_option maxHeartbeats 400000 in
theorem gcdu_any (a b : Nat) (w : World) (h1 : a ≤ 9223372036854775807) (h2 : b ≤ 9223372036854775807) :
    Calls Tryd.prog 73 #[.int .u64 a, .int .u64 b] w (Quiet (.int .u64 (Nat.gcd a b : Nat)) w) := by
  go_enter Tryd.func73, Tryd.ntmps73
  go_wp2
  go_loopw [0, 1] (fun u v wr => GcdRel .u64 a b w u v wr) (fun _ v _ => (intOf v).toNat)
  case atStart => exact ⟨a, b, rfl, rfl, h1, h2, rfl, 0, rfl⟩
  case round =>
    obtain ⟨x, y, rfl, rfl, hx, hy, hg, n, rfl⟩ := hrel
    have HG := Lib.hid hg; clear hg
    by_cases hz : y = 0
    · subst hz
      have HG2 : Hid (x = Nat.gcd a b) := by show x = Nat.gcd a b; simpa using HG.out
      clear HG
      go_wp2
      go_ret
      exact ⟨ret_int (by rw [← HG2.out]), n, rfl⟩
    · have hz' : ((y : Int) != 0) = true := by simp; omega
      have hz2 : ((y : Int) == 0) = false := by simp; omega
      have hy1 : 1 ≤ (y : Int) := by omega
      have hlt : x % y < y := Nat.mod_lt _ (by omega)
      have hle : x % y ≤ 9223372036854775807 := by omega
      go_wp2
      go_region
      all_goals
        go_wp2
        go_roundw
        case rel => exact ⟨y, x % y, rfl, by go_num, hy, hle, gcd_step HG.out, n + 1, rfl⟩
        case measure => simp [intOf]; omega

def bound (n most : Int) : Int := around n (2 * most + 1) - most
theorem bound_any (n most : Int) (w : World) (hn1 : -9223372036854775808 ≤ n) (hn2 : n ≤ 9223372036854775807) (h1 : 0 ≤ most) (h2 : most ≤ 2305843009213693952) :
    Calls Tryd.prog 14 #[.int .i64 n, .int .i64 most] w fun e w' => e = .returned (.int .i64 (bound n most)) ∧ w = w' := by
  obtain ⟨b1, b2⟩ := around_bd n (2 * most + 1) (by omega)
  go_enter Tryd.func14, Tryd.ntmps14
  go_wp2_with (go_at_call 12; refine (around_any _ _ _ hn1 hn2 (by omega) (by omega)).mono ?_; rintro e w' ⟨rfl, rfl⟩)
  go_ret
  exact ⟨rfl, rfl⟩
theorem bound_bd (n most : Int) (h1 : 0 ≤ most) : -most ≤ bound n most ∧ bound n most ≤ most := by
  have := around_bd n (2 * most + 1) (by omega)
  unfold bound; omega
end
end Go.Proofs.YthoibeajhdhdhaaDoor
