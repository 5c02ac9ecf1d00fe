/- TypesOrder: the walk. (merged: Rh) -/
import Derived.Test.YtgomgoacponbkaaDoorRe
import Derived.Test.YtgomgoacponbkaaDoorRa
import Derived.Deep.Slices
import Derived.Deep.Fields
import Derived.Test.YtgomgoacponbkaaDoorRf
import Derived.Laws.AppendOwnNone
set_option linter.unusedVariables false
set_option linter.unusedSimpArgs false
namespace Go.Proofs.YtgomgoacponbkaaDoor
section
open Go.RowKit Go.ChangeShapes Go.WideShapes Go.Deep

section
variable {H : Type} {enc : TypeId × Value → H} {W : World} {base : Nat} {spare : Nat → Bool} {held : Bool}
/-- a struct of one-cell fields: each field is a cell -/
theorem field_of {P : Program} {t : TypeId} {fs : Array Field} {fuel : Nat} {cs : List Value} {x : DataW H × List MemPlace} (hs : P.underlying t = some (.struct fs)) (hone : oneCellFields P fs = true) (hC : P.cellsOf t = fs.size)
    (h : DataW.trod enc P W base spare held fuel t cs = some x) : cs.length = fs.size ∧ ∃ n, ∀ (j : Nat) (f : Field), fs[j]? = some f → ∃ v y, cs[j]? = some v ∧ DataW.trod enc P W base spare held n f.type [v] = some y := by
  obtain ⟨xs, n, _, _, hl, hxl, hf⟩ := DataW.trod_struct hs h
  refine ⟨by rw [hl, hC], n, fun j f hj => ?_⟩
  obtain ⟨ho, hk⟩ := hone_of hone j f hj
  have hjl : j < fs.size := (Array.getElem?_eq_some_iff.1 hj).1
  have hcl : j < cs.length := by rw [hl, hC]; exact hjl
  have h1 := hf j f hj
  rw [ho, hk] at h1
  have e : (cs.drop j).take 1 = [cs[j]'hcl] := by rw [List.drop_eq_getElem_cons hcl]; rfl
  rw [e] at h1
  have hys : xs[j]? = some (xs[j]'(by omega)) := List.getElem?_eq_getElem (by omega)
  exact ⟨cs[j], _, List.getElem?_eq_getElem hcl, h1.trans hys⟩
theorem seq_of_cells {a : Addr} {len cap size : Nat} {t : TypeId} {xs : List Value} (hl : len ≤ cap) (hm : cap ≤ maxLen) (hxs : xs.length = len * size) (hs : 0 < size) (hcell : ∀ j u, xs[j]? = some u → W.cell? (a.add j) = some u) :
    Seq W W.heap.size t size (.slice (some a) len cap) len xs := by
  refine ⟨hxs, some a, cap, rfl, hl, hm, fun h0 => ?_⟩
  have hpos : 0 < xs.length := by rw [hxs]; exact Nat.mul_pos h0 hs
  have h1 := hcell 0 xs[0] (List.getElem?_eq_getElem hpos)
  have hsp : a.spot = none := by
    cases hq : a.spot with
    | none => rfl
    | some q =>
      simp only [Addr.add, if_pos, World.cell?] at h1
      split at h1
      · simp [hq] at h1
      · cases h1
  obtain ⟨b, off, sp⟩ := a
  simp only at hsp
  subst hsp
  have hadd : ∀ j, (⟨b, off, none⟩ : Addr).add j = ⟨b, off + j, none⟩ := fun j => by unfold Addr.add; split <;> simp_all
  have hb : b < W.heap.size := World.block_lt_of_cell? W ⟨b, off, none⟩ (u := xs[0]) (by simpa [Addr.add] using h1)
  refine ⟨b, off, rfl, ⟨hb, .inl hb⟩, fun j u hu => ?_⟩
  have := hcell j u hu
  rwa [hadd] at this
def LabArg (m : Lab) : Prop := m.1.size ≤ maxLen ∧ m.2.size ≤ maxLen
theorem int_wf {n : Int} (h : (Lit.int .i64 n).wf = true) : I64 n := by
  have : -9223372036854775808 ≤ n ∧ n ≤ 9223372036854775807 := by simpa [Lit.wf, IntKind.min, IntKind.max, IntKind.signed, IntKind.bits] using h
  exact this
/-- a slice of structs of one-cell fields, read as a list -/
theorem rows_of {α : Type} [Inhabited α] {t e : TypeId} {fuel : Nat} {v : Value} {x : DataW H × List MemPlace} (size : Nat) (cells : α → List Value) (good : α → Prop) (hcl : ∀ y, (cells y).length = size) (hpos : 0 < size) (ht : Tryd.prog.underlying t = some (.slice e)) (hC : Tryd.prog.cellsOf e = size)
    (helem : ∀ (n : Nat) (cs : List Value) (z : DataW H × List MemPlace), DataW.trod enc Tryd.prog W base spare held n e cs = some z → ∃ y, cs = cells y ∧ good y)
    (h : DataW.trod enc Tryd.prog W base spare held fuel t [v] = some x) : ∃ (A : Option Addr) (n c : Nat) (l : List α), v = .slice A n c ∧ Seq W W.heap.size e size (.slice A n c) l.length (l.flatMap cells) ∧ (∀ y ∈ l, good y) := by
  rcases open_slice ht h with ⟨h0, _⟩ | ⟨a, len, cap, m, n, D, Pl, hcs, _, hl, hm, hmm, _, hi⟩
  · simp only [List.cons.injEq, and_true] at h0
    subst h0
    exact ⟨none, 0, 0, [], rfl, Seq.nil _ _ _ _, fun y hy => by simp at hy⟩
  · simp only [List.cons.injEq, and_true] at hcs
    subst hcs
    have hlm : len ≤ m := by rw [hmm]; split <;> omega
    have hex : ∀ i : Nat, ∃ y : α, i < len → good y ∧ ∀ j u, (cells y)[j]? = some u → W.cell? (a.add (i * size + j)) = some u := by
      intro i
      by_cases hlt : i < len
      · obtain ⟨cs', hc, htr⟩ := hi i (by omega)
        obtain ⟨y, rfl, hg⟩ := helem _ _ _ htr
        obtain ⟨_, _, hat⟩ := World.cells?_some hc
        refine ⟨y, fun _ => ⟨hg, fun j u hu => ?_⟩⟩
        have hj : j < size := by
          have := (List.getElem?_eq_some_iff.1 hu).1
          rw [hcl] at this; exact this
        have := hat j (by rw [hC]; exact hj)
        rw [hC, Go.Deep.add_add] at this
        rw [this, hu]
      · exact ⟨default, fun h => absurd h hlt⟩
    obtain ⟨f, hf⟩ := Classical.axiomOfChoice hex
    refine ⟨some a, len, cap, (List.range len).map f, rfl, ?_, fun y hy => ?_⟩
    · have hlen : ((List.range len).map f).length = len := by simp
      rw [hlen]
      refine seq_of_cells hl hm ?_ hpos fun j u hu => ?_
      · rw [flat_len cells size hcl, hlen]
      · have hj : j < len * size := by
          have := (List.getElem?_eq_some_iff.1 hu).1
          rw [flat_len cells size hcl, hlen] at this; exact this
        have hk : j / size < len := Nat.div_lt_of_lt_mul (by rw [Nat.mul_comm]; exact hj)
        have hr : j % size < size := Nat.mod_lt _ hpos
        have e : j = j / size * size + j % size := by rw [Nat.mul_comm]; exact (Nat.div_add_mod j size).symm
        have hg : ((List.range len).map f)[j / size]? = some (f (j / size)) := by
          rw [List.getElem?_map, List.getElem?_range hk]; rfl
        rw [e, flat_get cells size hcl _ _ _ _ hg hr] at hu
        have := (hf (j / size) hk).2 _ _ hu
        rwa [← e] at this
    · obtain ⟨i, hir, rfl⟩ := List.mem_map.1 hy
      exact (hf i (List.mem_range.1 hir)).1
theorem two_of9 {cs : List Value} (h : cs.length = 2) : ∃ a b, cs = [a, b] := by
  match cs, h with
  | [a, b], _ => exact ⟨a, b, rfl⟩
theorem lab_of (n : Nat) (cs : List Value) (z : DataW H × List MemPlace) (h : DataW.trod enc Tryd.prog W base spare held n 78 cs = some z) : ∃ y : Lab, cs = labCells y ∧ LabArg y := by
  obtain ⟨hl, m, hf⟩ := field_of Tryd.underlying78 (by kernel_rfl) (by kernel_rfl) h
  obtain ⟨a, b, rfl⟩ := two_of9 hl
  obtain ⟨v0, y0, h0, t0⟩ := hf 0 _ rfl
  obtain ⟨v1, y1, h1, t1⟩ := hf 1 _ rfl
  cases h0; cases h1
  obtain ⟨s0, e0, _, z0⟩ := DataW.trod_string Tryd.underlying9 t0
  obtain ⟨s1, e1, _, z1⟩ := DataW.trod_string Tryd.underlying9 t1
  cases e0; cases e1
  exact ⟨(s0, s1), rfl, z0, z1⟩
instance : Inhabited Lab := ⟨(⟨#[]⟩, ⟨#[]⟩)⟩
set_option maxRecDepth 100000 in
set_option maxHeartbeats 1000000 in
theorem open_decl {r : Reach} {b0 : Nat} {v : Value} {d : DataW H} {p : List MemPlace} (hv : Value.okWide Tryd.prog W r b0 46 v) (h : DataW.Trod enc Tryd.prog W base spare held 46 v d p) :
    ∃ (x : Dx) (A : Option Addr) (n c : Nat), x.lv = .slice A n c ∧ v = .agg (dcC x) ∧ Labs W W.heap.size x.lv x.dc.2.1 ∧ x.dc.1.size ≤ maxLen ∧ I64 x.dc.2.2.1 ∧ I64 x.dc.2.2.2.1 ∧ I64 x.dc.2.2.2.2 := by
  obtain ⟨cs, rfl, hsz⟩ := okWide_struct Tryd.underlying46 hv
  obtain ⟨fuel, hf⟩ := h
  obtain ⟨xs, m, _, _, hl, hxl, hf⟩ := DataW.trod_struct Tryd.underlying46 hf
  rw [show Tryd.prog.cellsOf 46 = 12 from by kernel_rfl] at hl
  obtain ⟨l⟩ := cs
  have hl9 : l.length = 12 := hl
  match l, hl9 with
  | [c0, c1, c2, c3, c4, c5, c6, c7, c8, c9, c10, c11], _ =>
    simp only [Value.cells] at hf
    have g0 : DataW.trod enc Tryd.prog W base spare held m 9 ((([c0, c1, c2, c3, c4, c5, c6, c7, c8, c9, c10, c11] : List Value).drop 0).take (Tryd.prog.cellsOf 9)) = xs[0]? := hf 0 _ rfl
    rw [show Tryd.prog.cellsOf 9 = 1 from by kernel_rfl] at g0
    obtain ⟨y0, hy0⟩ : ∃ y, xs[0]? = some y := ⟨xs[0]'(by rw [hxl]; decide), List.getElem?_eq_getElem _⟩
    rw [hy0] at g0
    simp only [List.drop_zero, List.drop_succ_cons, List.take_succ_cons, List.take_zero] at g0
    have g1 : DataW.trod enc Tryd.prog W base spare held m 44 ((([c0, c1, c2, c3, c4, c5, c6, c7, c8, c9, c10, c11] : List Value).drop 1).take (Tryd.prog.cellsOf 44)) = xs[1]? := hf 1 _ rfl
    rw [show Tryd.prog.cellsOf 44 = 1 from by kernel_rfl] at g1
    obtain ⟨y1, hy1⟩ : ∃ y, xs[1]? = some y := ⟨xs[1]'(by rw [hxl]; decide), List.getElem?_eq_getElem _⟩
    rw [hy1] at g1
    simp only [List.drop_zero, List.drop_succ_cons, List.take_succ_cons, List.take_zero] at g1
    have g5 : DataW.trod enc Tryd.prog W base spare held m 3 ((([c0, c1, c2, c3, c4, c5, c6, c7, c8, c9, c10, c11] : List Value).drop 5).take (Tryd.prog.cellsOf 3)) = xs[3]? := hf 3 _ rfl
    rw [show Tryd.prog.cellsOf 3 = 1 from by kernel_rfl] at g5
    obtain ⟨y5, hy5⟩ : ∃ y, xs[3]? = some y := ⟨xs[3]'(by rw [hxl]; decide), List.getElem?_eq_getElem _⟩
    rw [hy5] at g5
    simp only [List.drop_zero, List.drop_succ_cons, List.take_succ_cons, List.take_zero] at g5
    have g6 : DataW.trod enc Tryd.prog W base spare held m 3 ((([c0, c1, c2, c3, c4, c5, c6, c7, c8, c9, c10, c11] : List Value).drop 6).take (Tryd.prog.cellsOf 3)) = xs[4]? := hf 4 _ rfl
    rw [show Tryd.prog.cellsOf 3 = 1 from by kernel_rfl] at g6
    obtain ⟨y6, hy6⟩ : ∃ y, xs[4]? = some y := ⟨xs[4]'(by rw [hxl]; decide), List.getElem?_eq_getElem _⟩
    rw [hy6] at g6
    simp only [List.drop_zero, List.drop_succ_cons, List.take_succ_cons, List.take_zero] at g6
    have g7 : DataW.trod enc Tryd.prog W base spare held m 3 ((([c0, c1, c2, c3, c4, c5, c6, c7, c8, c9, c10, c11] : List Value).drop 7).take (Tryd.prog.cellsOf 3)) = xs[5]? := hf 5 _ rfl
    rw [show Tryd.prog.cellsOf 3 = 1 from by kernel_rfl] at g7
    obtain ⟨y7, hy7⟩ : ∃ y, xs[5]? = some y := ⟨xs[5]'(by rw [hxl]; decide), List.getElem?_eq_getElem _⟩
    rw [hy7] at g7
    simp only [List.drop_zero, List.drop_succ_cons, List.take_succ_cons, List.take_zero] at g7
    have g8 : DataW.trod enc Tryd.prog W base spare held m 3 ((([c0, c1, c2, c3, c4, c5, c6, c7, c8, c9, c10, c11] : List Value).drop 8).take (Tryd.prog.cellsOf 3)) = xs[6]? := hf 6 _ rfl
    rw [show Tryd.prog.cellsOf 3 = 1 from by kernel_rfl] at g8
    obtain ⟨y8, hy8⟩ : ∃ y, xs[6]? = some y := ⟨xs[6]'(by rw [hxl]; decide), List.getElem?_eq_getElem _⟩
    rw [hy8] at g8
    simp only [List.drop_zero, List.drop_succ_cons, List.take_succ_cons, List.take_zero] at g8
    have g9 : DataW.trod enc Tryd.prog W base spare held m 3 ((([c0, c1, c2, c3, c4, c5, c6, c7, c8, c9, c10, c11] : List Value).drop 9).take (Tryd.prog.cellsOf 3)) = xs[7]? := hf 7 _ rfl
    rw [show Tryd.prog.cellsOf 3 = 1 from by kernel_rfl] at g9
    obtain ⟨y9, hy9⟩ : ∃ y, xs[7]? = some y := ⟨xs[7]'(by rw [hxl]; decide), List.getElem?_eq_getElem _⟩
    rw [hy9] at g9
    simp only [List.drop_zero, List.drop_succ_cons, List.take_succ_cons, List.take_zero] at g9
    have g10 : DataW.trod enc Tryd.prog W base spare held m 3 ((([c0, c1, c2, c3, c4, c5, c6, c7, c8, c9, c10, c11] : List Value).drop 10).take (Tryd.prog.cellsOf 3)) = xs[8]? := hf 8 _ rfl
    rw [show Tryd.prog.cellsOf 3 = 1 from by kernel_rfl] at g10
    obtain ⟨y10, hy10⟩ : ∃ y, xs[8]? = some y := ⟨xs[8]'(by rw [hxl]; decide), List.getElem?_eq_getElem _⟩
    rw [hy10] at g10
    simp only [List.drop_zero, List.drop_succ_cons, List.take_succ_cons, List.take_zero] at g10
    have g11 : DataW.trod enc Tryd.prog W base spare held m 3 ((([c0, c1, c2, c3, c4, c5, c6, c7, c8, c9, c10, c11] : List Value).drop 11).take (Tryd.prog.cellsOf 3)) = xs[9]? := hf 9 _ rfl
    rw [show Tryd.prog.cellsOf 3 = 1 from by kernel_rfl] at g11
    obtain ⟨y11, hy11⟩ : ∃ y, xs[9]? = some y := ⟨xs[9]'(by rw [hxl]; decide), List.getElem?_eq_getElem _⟩
    rw [hy11] at g11
    simp only [List.drop_zero, List.drop_succ_cons, List.take_succ_cons, List.take_zero] at g11
    have g2 : DataW.trod enc Tryd.prog W base spare held m 23 ((([c0, c1, c2, c3, c4, c5, c6, c7, c8, c9, c10, c11] : List Value).drop 2).take (Tryd.prog.cellsOf 23)) = xs[2]? := hf 2 _ rfl
    rw [show Tryd.prog.cellsOf 23 = 3 from by kernel_rfl] at g2
    obtain ⟨y2, hy2⟩ : ∃ y, xs[2]? = some y := ⟨xs[2]'(by rw [hxl]; decide), List.getElem?_eq_getElem _⟩
    rw [hy2] at g2
    simp only [List.drop_zero, List.drop_succ_cons, List.take_succ_cons, List.take_zero] at g2
    obtain ⟨us, m2, _, _, _, hul, hu⟩ := DataW.trod_array Tryd.underlying23 g2
    rw [show Tryd.prog.cellsOf 3 = 1 from by kernel_rfl] at hu
    have u0' := hu 0 (by decide)
    have u1' := hu 1 (by decide)
    have u2' := hu 2 (by decide)
    rw [List.getElem?_eq_getElem (by omega)] at u0' u1' u2'
    simp only [Nat.zero_mul, Nat.one_mul, Nat.mul_one, List.drop_zero, List.drop_succ_cons, List.take_succ_cons, List.take_zero] at u0' u1' u2'
    obtain ⟨s0, e0, _, z0⟩ := DataW.trod_string Tryd.underlying9 g0
    obtain ⟨A, n, c, ls, rfl, hls, hg⟩ := rows_of 2 labCells LabArg (fun _ => rfl) (by decide) Tryd.underlying44 (by kernel_rfl) lab_of g1
    obtain ⟨n2, e2, _, z2⟩ := DataW.trod_int Tryd.underlying3 u0'
    obtain ⟨n3, e3, _, z3⟩ := DataW.trod_int Tryd.underlying3 u1'
    obtain ⟨n4, e4, _, z4⟩ := DataW.trod_int Tryd.underlying3 u2'
    obtain ⟨n5, e5, _, z5⟩ := DataW.trod_int Tryd.underlying3 g5
    obtain ⟨n6, e6, _, z6⟩ := DataW.trod_int Tryd.underlying3 g6
    obtain ⟨n7, e7, _, z7⟩ := DataW.trod_int Tryd.underlying3 g7
    obtain ⟨n8, e8, _, z8⟩ := DataW.trod_int Tryd.underlying3 g8
    obtain ⟨n9, e9, _, z9⟩ := DataW.trod_int Tryd.underlying3 g9
    obtain ⟨n10, e10, _, z10⟩ := DataW.trod_int Tryd.underlying3 g10
    obtain ⟨n11, e11, _, z11⟩ := DataW.trod_int Tryd.underlying3 g11
    cases e0; cases e2; cases e3; cases e4; cases e5; cases e6; cases e7; cases e8; cases e9; cases e10; cases e11
    have hlen := hls.len
    obtain ⟨rfl, -⟩ := hlen
    exact ⟨⟨(s0, ls, (n2, n3, n4)), .slice A ls.length c, fun k => [n5, n6, n7, n8, n9, n10, n11].getD k 0⟩, A, _, c, rfl, rfl, hls, z0, int_wf z2, int_wf z3, int_wf z4⟩
end
end
section
open Go.RowKit FracM

/-- append onto a row of the call's own, whatever the source -/
theorem wpList_append_src {Pg : Program} {w : World} {ops : Array Oper} {rest : List Oper} {o : Oper} {a : Act} {Q : Exit → Act → World → Prop} (hgd : o.guard = none) (s x : Operand) (t : TypeId)
    (ho : o.op = .call { callee := .builtin .append, args := #[s, x], argTypes := #[t, t] })
    (base : Nat) (e : TypeId) (i : TypeInfo) (z : Value) (size bytes : Nat) (ht : Pg.underlying t = some (.slice e)) (hi : Pg.info? e = some i) (hz : i.zero = some z)
    (hsize : i.size = size) (hby : i.bytes = bytes) (hzs : z.cells.size = size) (hsz : 0 < size)
    (v : Value) (n : Nat) (xs : List Value) (hs : a.eval s = v) (hown : w.ownsRow base e size v n xs)
    (A : Option Addr) (m c : Nat) (news : List Value) (hx : a.eval x = .slice A m c) (hl : news.length = m * size) (hnone : A = none → m = 0 ∧ c = 0) (hnews : ∀ ad, A = some ad → ∀ j u, news[j]? = some u → w.cell? (ad.add j) = some u) (h1 : ∀ u ∈ news, u.oneCell' = true)
    (h63 : n + m ≤ maxLen) (hbytes : (n + m) * bytes ≤ 140737488355328) (hbase : base ≤ w.heap.size)
    (h : ∀ v' w', w'.ownsRow base e size v' (n + m) (xs ++ news) → w.grownBy w' v.ownBlock → wpList Pg ops Q rest (a.put o.dst v') w') :
    wpList Pg ops Q (o :: rest) a w := by
  cases A with
  | none =>
    obtain ⟨rfl, rfl⟩ := hnone rfl
    have hn : news = [] := List.eq_nil_of_length_eq_zero (by simpa using hl)
    subst hn
    exact wpList_append_own_none hgd s x t ho base e i size ht hi v n xs hs hown hx (h v w (by simpa using hown) (World.grownBy.refl w _))
  | some ad => exact wpList_append_own_at w hgd s x t ho base e i z size bytes ht hi hz hsize hby hzs hsz v n xs hs hown ad m c news hx hl (hnews ad rfl) h1 h63 hbytes hbase fun v' w' g1 g2 _ _ => h v' w' g1 g2
theorem Ints.toP2 {w : World} {B : Nat} {v : Value} {l : List Int} (h : Ints w B v l) : Ints w w.heap.size v l := by
  obtain ⟨⟨h1, A, c, hv, hn, hc, hx⟩, hz⟩ := h
  refine ⟨⟨h1, A, c, hv, hn, hc, fun h0 => ?_⟩, hz⟩
  obtain ⟨b, off, hA, hf, hcl⟩ := hx h0
  exact ⟨b, off, hA, ⟨hf.1, .inl hf.1⟩, hcl⟩
theorem add_none (b o j : Nat) : (⟨b, o, none⟩ : Addr).add j = ⟨b, o + j, none⟩ := by
  unfold Addr.add; split
  · next h => subst h; rfl
  · rfl
theorem src_cells {W : World} {P : Nat → Nat → Prop} {n c b : Nat} {D : List Dx} {k : Nat} (h : DecsAt W P (.slice (some ⟨b, 0, none⟩) n c) D) (hk : k ≤ D.length) : (∀ j u, ((D.drop k).flatMap dcL)[j]? = some u → W.cell? ⟨b, k * 12 + j, none⟩ = some u) ∧ (∀ j u, ((D.take k).flatMap dcL)[j]? = some u → W.cell? ⟨b, j, none⟩ = some u) := by
  obtain ⟨⟨h1, A', c', hv, _, _, h2⟩, _⟩ := h
  cases hv
  have hsplit : D.flatMap dcL = (D.take k).flatMap dcL ++ (D.drop k).flatMap dcL := by rw [← List.flatMap_append, List.take_append_drop]
  have hlen : ((D.take k).flatMap dcL).length = k * 12 := by rw [flat_len dcL 12 (fun _ => rfl), List.length_take, Nat.min_eq_left hk]
  rcases Nat.eq_zero_or_pos D.length with h0 | h0
  · obtain rfl := List.eq_nil_of_length_eq_zero h0
    exact ⟨fun j u hu => by simp at hu, fun j u hu => by simp at hu⟩
  · obtain ⟨b, off, hA, hb, hp, hx⟩ := h2 h0
    cases hA
    rw [hsplit] at hx
    refine ⟨fun j u hu => ?_, fun j u hu => ?_⟩
    · have := hx (k * 12 + j) u (by rw [List.getElem?_append_right (by omega), hlen]; simpa using hu)
      rw [Nat.zero_add] at this; exact this
    · have hj := (List.getElem?_eq_some_iff.1 hu).1
      have := hx j u (by rw [List.getElem?_append_left (by omega)]; exact hu)
      rw [Nat.zero_add] at this; exact this
/-- what the law holds: the tree, declarations, the other one, variables, all below Bt -/
structure QT (w W : World) (Bt : Nat) (t : Tree) (s : Sl) (dv : Value) (D : List Dx) (oth : Dx) (vs : List Var) : Prop where
  below : Below w.heap.size w W
  hi : Bt ≤ W.heap.size
  tree : TreeAt W (LowP Bt) t s
  decs : DecsAt W (LowP Bt) dv D
  oth : DxOk W (LowP Bt) oth
  vars : ∀ v ∈ vs, v.1 < Bt ∧ Blk W v.1 v.2.1 v.2.2
theorem QT.lt {w W W' : World} {Bt : Nat} {t : Tree} {s : Sl} {dv : Value} {D : List Dx} {oth : Dx} {vs : List Var} (h : QT w W Bt t s dv D oth vs) (hw : w.heap.size ≤ Bt) (hb : Below Bt W W') : QT w W' Bt t s dv D oth vs :=
  ⟨h.below.trans (hb.mono hw), Nat.le_trans h.hi hb.size, h.tree.keep (Agree.of_lt hb fun _ _ hp => hp), h.decs.keep (Agree.of_lt hb fun _ _ hp => hp), ⟨h.oth.1.keep (Agree.of_lt hb fun _ _ hp => hp), h.oth.2⟩, fun v hv => ⟨(h.vars v hv).1, (hb.block _ (h.vars v hv).1).trans (h.vars v hv).2⟩⟩
theorem QT.next {w W W' : World} {Bt : Nat} {t : Tree} {s : Sl} {dv : Value} {D : List Dx} {oth : Dx} {vs : List Var} (h : QT w W Bt t s dv D oth vs) (hw : w.heap.size ≤ Bt) (hb : Below W.heap.size W W') : QT w W' Bt t s dv D oth vs := h.lt hw (hb.mono h.hi)
/-- declarations of the generator lie in no block of a declaration's own -/
theorem labs_far {w1 : World} {g : Nat} {cs : Array Value} {x : Dx} (hg : GoodD w1 0 x) (hb : Blk w1 g 46 cs) : SeqP w1 (fun b _ => b ≠ g) 2 x.lv x.dc.2.1.length (x.dc.2.1.flatMap labCells) := by
  obtain ⟨h1, A, c, hv, hn, hc, h2⟩ := hg.labs
  refine ⟨h1, A, c, hv, hn, hc, fun h0 => ?_⟩
  obtain ⟨b, off, hA, hf, hx'⟩ := h2 h0
  refine ⟨b, off, hA, hf.1, ?_, hx'⟩
  rintro rfl
  rcases hf.2 with h | ⟨cs', fz, h⟩
  · omega
  · unfold Blk at hb; rw [hb] at h; cases h
theorem decs_far {w1 : World} {B g : Nat} {cs : Array Value} {D : List Dx} {v : Value} (hown : w1.ownsRow B 46 12 v D.length (D.flatMap dcL)) (hg : ∀ x ∈ D, GoodD w1 0 x) (hB : g < B) (hb : Blk w1 g 46 cs) : DecsAt w1 (fun b _ => b ≠ g) v D :=
  ⟨SeqP.of_own hown (fun b _ h _ => by omega), fun x hx => ⟨labs_far (hg x hx) hb, by have := (ns3_ok _ (hg x hx).name).2.2; unfold maxLen; omega, unitsL_fit _ (hg x hx).unit⟩⟩
theorem seq_old {w : World} {base t size n : Nat} {v : Value} {xs : List Value} (h : Seq w base t size v n xs) : SeqP w (fun b _ => b ≠ w.heap.size) size v n xs := by
  obtain ⟨h1, A, c, hv, hn, hc, h2⟩ := h
  refine ⟨h1, A, c, hv, hn, hc, fun h0 => ?_⟩
  obtain ⟨b, off, hA, hf, hx⟩ := h2 h0
  exact ⟨b, off, hA, hf.1, Nat.ne_of_lt hf.1, hx⟩
/-- a row of declarations -/
def OwnD (w : World) (B : Nat) (v : Value) (l : List Dx) : Prop := w.ownsRow B 46 12 v l.length (l.flatMap dcL)
theorem OwnD.below {w w' : World} {B : Nat} {v : Value} {l : List Dx} (h : OwnD w B v l) (hb : Below w.heap.size w w') : OwnD w' B v l := own_below h hb
theorem dcs_one {w : World} {P : Nat → Nat → Prop} {l : List Dx} (h : ∀ x ∈ l, DxOk w P x) : ∀ u ∈ l.flatMap dcL, u.oneCell' = true := by
  intro u hu
  obtain ⟨x, hx, hu⟩ := List.mem_flatMap.1 hu
  obtain ⟨A, c, hv, _⟩ := (h x hx).1.form
  exact dc_one x ⟨A, _, c, hv⟩ u hu
theorem zname {s : ByteArray} : ∀ x ∈ ns3, (((⟨#[122]⟩ : ByteArray) ++ s).toList == x.toList) = false := by
  intro x hx
  have h0 : ((⟨#[122]⟩ : ByteArray) ++ s).toList = 122 :: s.toList := by
    simp [ByteArray.toList_eq]
  rw [h0]
  simp [ns3] at hx
  rcases hx with rfl | rfl | rfl <;> simp [ByteArray.toList_eq]
set_option maxHeartbeats 8000000 in
set_option maxRecDepth 100000 in
theorem typesOrder_walk (AM : Option Addr) (nm cm : Nat) (lm : List Int) (AL : Option Addr) (nl cl : Nat) (ll : List Int) (by_ : Int) (ox : Dx) (AO : Option Addr) (nO cO : Nat) (w : World) (hw : WordsG w) (h1 : Ints w w.heap.size (.slice AM nm cm) lm) (h2 : Ints w w.heap.size (.slice AL nl cl) ll) (hby : I64 by_) (hlv : ox.lv = .slice AO nO cO) (hox : Labs w w.heap.size ox.lv ox.dc.2.1 ∧ ox.dc.1.size ≤ maxLen ∧ I64 ox.dc.2.2.1 ∧ I64 ox.dc.2.2.2.1 ∧ I64 ox.dc.2.2.2.2) :
    Calls Tryd.prog 6 #[.slice AM nm cm, .slice AL nl cl, .int .i64 by_, .agg (dcC ox)] w fun e w' => e = .returned (.bool true) ∧ Below w.heap.size w w' := by
  obtain ⟨⟨onm, ols, oun⟩, olv, oo⟩ := ox
  simp only at hlv hox
  subst hlv
  obtain ⟨hb1, hb2⟩ := hby
  have HW0 := Box.mk hw
  have HW := Box.mk (hw.below (bel1 w (.cells (dcC ⟨(onm, ols, oun), .slice AO nO cO, oo⟩) 46)))
  have HL := Box.mk (IntsP.belo h2.toP (bel1 w (.cells (dcC ⟨(onm, ols, oun), .slice AO nO cO, oo⟩) 46)))
  have HM := Box.mk (h1.below (bel1 w (.cells (dcC ⟨(onm, ols, oun), .slice AO nO cO, oo⟩) 46)))
  have HOX := Box.mk hox
  have HV : Box (Blk (w.alloc (.cells (dcC ⟨(onm, ols, oun), .slice AO nO cO, oo⟩) 46)) w.heap.size 46 (dcC ⟨(onm, ols, oun), .slice AO nO cO, oo⟩)) := ⟨Blk.new _ _ _⟩
  have HB := Box.mk (bel1 w (.cells (dcC ⟨(onm, ols, oun), .slice AO nO cO, oo⟩) 46))
  have hz : (w.alloc (.cells (dcC ⟨(onm, ols, oun), .slice AO nO cO, oo⟩) 46)).heap.size = w.heap.size + 1 := by simp
  clear h1 h2 hw hox
  go_enter Tryd.func6, Tryd.ntmps6
  go_upto_region 1 with (fail)
  generalize w.alloc (.cells (dcC ⟨(onm, ols, oun), .slice AO nO cO, oo⟩) 46) = W at *
  have HZ := Box.mk hz
  clear hz
  go_wp2_with fail
  refine (decls_any _ _ _ lm _ (Ints.toP2 HM.out)).mono ?_
  rintro e w1 ⟨D, AD, nD, cD, rfl, hown, hDl, hgood, hb1'⟩
  obtain ⟨AD', cD', hvD⟩ := own_form hown
  obtain rfl : nD = D.length := by injection hvD
  have HNIL : Box (AD = none → D.length = 0 ∧ cD = 0) := ⟨fun h => by
    subst h
    rcases hown.2 with ⟨hv, _⟩ | ⟨_, _, _, hv, _⟩
    · injection hv with _ h1 h2; exact ⟨h1, h2⟩
    · cases hv⟩
  have HSOME : Box (∀ ad, AD = some ad → ∃ b, ad = ⟨b, 0, none⟩) := ⟨fun ad h => by
    subst h
    rcases hown.2 with ⟨hv, _⟩ | ⟨g', _, _, hv, _⟩
    · cases hv
    · cases hv; exact ⟨_, rfl⟩⟩
  have HDO := Box.mk (decs_far (g := w.heap.size) hown hgood (by have := HZ.out; omega) (HV.out.below hb1'))
  have HB1 := Box.mk (HB.out.trans (hb1'.mono HB.out.size))
  have HW1 := Box.mk (HW.out.below hb1')
  have HL1 := Box.mk (IntsP.belo HL.out hb1')
  have HV1 := Box.mk (HV.out.below hb1')
  clear hvD hown hgood hb1' HM HL HW HV HB
  go_wp2_with fail
  refine (query_any _ ll _ HL1.out).mono ?_
  rintro e w2 ⟨t, s, rfl, htree, hgt, hdp, hnd, hb2'⟩
  obtain ⟨d, ks⟩ := t
  obtain ⟨mv, bv, kv⟩ := s
  obtain ⟨A1, n1, rfl, -⟩ := htree.form.1
  obtain ⟨A2, n2, rfl, -⟩ := htree.form.2.1
  obtain ⟨A3, n3, rfl, -⟩ := htree.form.2.2
  simp only [Tree.d]
  have HT : Box (TreeAt w2 (fun b _ => b ≠ w.heap.size) (.node d ks) (.slice A1 d.ms.length n1, .slice A2 d.bys.length n2, .slice A3 ks.length n3)) := ⟨by obtain ⟨L, h⟩ := htree; exact h.mono fun b e _ hp => by have := hp.1; have := HV1.out.lt; omega⟩
  have HGT := Box.mk (And.intro hgt (And.intro hdp hnd))
  have HB2 := Box.mk (bthen HB1.out hb2' (Nat.le_refl _))
  have HD2 := Box.mk (HDO.out.keep (Agree.of_below hb2'))
  have HW2 := Box.mk (HW1.out.below hb2')
  have HV2 := Box.mk (HV1.out.below hb2')
  clear htree hgt hdp hnd hb2' HL1 HB1 HDO HW1 HV1
  go_upto_region 3 with (fail)
  have HT3 := Box.mk (HT.out.belo (bel1 w2 (.cells (ndC d (.slice A1 d.ms.length n1) (.slice A2 d.bys.length n2) (.slice A3 ks.length n3)) 38)))
  have HB3 := Box.mk (bthen HB2.out (bel1 w2 (.cells (ndC d (.slice A1 d.ms.length n1) (.slice A2 d.bys.length n2) (.slice A3 ks.length n3)) 38)) (Nat.le_refl _))
  have HD3 := Box.mk (HD2.out.keep (Agree.of_below (bel1 w2 (.cells (ndC d (.slice A1 d.ms.length n1) (.slice A2 d.bys.length n2) (.slice A3 ks.length n3)) 38))))
  have HW3 := Box.mk (HW2.out.below (bel1 w2 (.cells (ndC d (.slice A1 d.ms.length n1) (.slice A2 d.bys.length n2) (.slice A3 ks.length n3)) 38)))
  have HV3 := Box.mk (HV2.out.alloc (.cells (ndC d (.slice A1 d.ms.length n1) (.slice A2 d.bys.length n2) (.slice A3 ks.length n3)) 38))
  have HE3 : Box (Blk (w2.alloc (.cells (ndC d (.slice A1 d.ms.length n1) (.slice A2 d.bys.length n2) (.slice A3 ks.length n3)) 38)) w2.heap.size 38 (ndC d (.slice A1 d.ms.length n1) (.slice A2 d.bys.length n2) (.slice A3 ks.length n3))) := ⟨Blk.new _ _ _⟩
  have hze : w.heap.size < w2.heap.size := HV2.out.lt
  clear HT HB2 HD2 HW2 HV2
  generalize w2.alloc (.cells (ndC d (.slice A1 d.ms.length n1) (.slice A2 d.bys.length n2) (.slice A3 ks.length n3)) 38) = W3 at *
  generalize w2.heap.size = eb at *
  have hl1 : (1 : Int) ≤ (D.length : Int) + 1 := by omega
  have hl2 : (D.length : Int) + 1 ≤ 9223372036854775807 := by omega
  obtain ⟨q1, q2⟩ := around_bd by_ ((D.length : Int) + 1) hl1
  go_wp2_with fail
  refine (around_any by_ ((D.length : Int) + 1) _ hb1 hb2 hl1 hl2).mono ?_
  rintro e w' ⟨rfl, rfl⟩
  obtain ⟨k, hk⟩ : ∃ k : Nat, around by_ ((D.length : Int) + 1) = (k : Int) := ⟨(around by_ ((D.length : Int) + 1)).toNat, by omega⟩
  rw [hk] at q1 q2 ⊢
  clear hk q1
  have hkl : k ≤ D.length := by omega
  clear q2
  obtain ⟨o0, o1, o2, o3, o4, o5, o6, o7, o8, o9, o10, o11⟩ := blk12 HV3.out
  simp only [Nat.zero_add] at o0
  clear o1 o2 o3 o4 o5 o6 o7 o8 o9 o10 o11
  have of := HV3.out.frozen
  go_wp2_with fail
  refine (short_any onm 5 _ HOX.out.2.1 (by omega)).mono ?_
  rintro e w' ⟨rfl, rfl⟩
  have hss := short_size onm 5
  generalize short onm 5 = sh at hss ⊢
  have HOTH : Box (DxOk W3 (fun b _ => b ≠ w.heap.size) ⟨(⟨#[122]⟩ ++ sh, ols, oun), .slice AO nO cO, oo⟩) := ⟨⟨(seq_old HOX.out.1).keep (Agree.of_below HB3.out), by have h1 : (⟨#[122]⟩ : ByteArray).size = 1 := rfl; simp only [ByteArray.size_append, maxLen]; omega, HOX.out.2.2⟩⟩
  go_upto_region 5 with (fail)
  have hzz : w.heap.size ≤ W3.heap.size := HB3.out.size
  have HQ : Box (QT w (W3.setCell ⟨w.heap.size, 0, none⟩ (.string (⟨#[122]⟩ ++ sh))) W3.heap.size (.node d ks) (.slice A1 d.ms.length n1, .slice A2 d.bys.length n2, .slice A3 ks.length n3) (.slice AD D.length cD) D ⟨(⟨#[122]⟩ ++ sh, ols, oun), .slice AO nO cO, oo⟩ [(eb, 38, (ndC d (.slice A1 d.ms.length n1) (.slice A2 d.bys.length n2) (.slice A3 ks.length n3))), (w.heap.size, 46, dcC ⟨(⟨#[122]⟩ ++ sh, ols, oun), .slice AO nO cO, oo⟩)]) := ⟨by
    have ho := Only.setCell (w := W3) (g := w.heap.size) 0 (.string (⟨#[122]⟩ ++ sh))
    have hA : ∀ (P : Nat → Nat → Prop), (∀ b e, P b e → b ≠ w.heap.size) → Agree P W3 (W3.setCell ⟨w.heap.size, 0, none⟩ (.string (⟨#[122]⟩ ++ sh))) := fun P hp => Agree.of_only ho hp
    refine ⟨HB3.out.setCell (p := ⟨w.heap.size, 0, none⟩) (Nat.le_refl _) _, by simp [World.setCell], ?_, ?_, ?_, ?_⟩
    · exact (HT3.out.keep (hA _ fun _ _ h => h)).mono fun b e hb _ => by simpa [World.setCell, LowP] using hb
    · exact (HD3.out.keep (hA _ fun _ _ h => h)).mono fun b e hb _ => by simpa [World.setCell, LowP] using hb
    · exact ⟨(HOTH.out.1.keep (hA _ fun _ _ h => h)).mono fun b e hb _ => by simpa [World.setCell, LowP] using hb, HOTH.out.2⟩
    · intro v hv
      rcases List.mem_cons.1 hv with e | hv
      · subst e; exact ⟨HE3.out.lt, HE3.out.far (by simp only; omega) _⟩
      · rcases List.mem_cons.1 hv with e | hv
        · subst e; exact ⟨HV3.out.lt, HV3.out.set 0 _⟩
        · cases hv⟩
  have HW4 := Box.mk (HW0.out.below HQ.out.below)
  clear HT3 HB3 HD3 HE3 HV3 HOTH o0 of
  generalize (W3.setCell ⟨w.heap.size, 0, none⟩ (.string (⟨#[122]⟩ ++ sh))) = W4 at HQ HW4 ⊢
  generalize W3.heap.size = Bt at *
  obtain ⟨oth, hoth⟩ : ∃ o : Dx, o = ⟨(⟨#[122]⟩ ++ sh, ols, oun), .slice AO nO cO, oo⟩ := ⟨_, rfl⟩
  rw [← hoth] at HQ
  have HOTH := Box.mk hoth
  clear hoth
  have hw0 : w.heap.size ≤ Bt := hzz
  obtain ⟨j0, hj, hy0, hy1, hy2⟩ := info_parts declInfo
  have HJ := Box.mk (And.intro hj (And.intro hy0 (And.intro hy1 hy2)))
  clear hj hy0 hy1 hy2
  have hDm := HQ.out.decs.len.2
  obtain ⟨cD1, hcap⟩ : ∃ z : Nat, D.length ≤ cD ∧ cD ≤ 9223372036854775807 := ⟨0, by
    obtain ⟨⟨_, A', c', hv, h1, h2, _⟩, _⟩ := HQ.out.decs
    cases hv
    unfold maxLen at h2
    exact ⟨h1, by omega⟩⟩
  obtain ⟨hcap1, hcap2⟩ := hcap
  clear cD1
  have HDROP : Box (((D.drop k).flatMap dcL).length = (D.length - k) * 12 ∧ ((D.take k).flatMap dcL).length = k * 12) := ⟨by
    constructor
    · rw [flat_len dcL 12 (fun _ => rfl), List.length_drop]
    · rw [flat_len dcL 12 (fun _ => rfl), List.length_take, Nat.min_eq_left hkl]⟩
  go_upto_region 6 with (fail)
  go_cut [12] (fun v wx => OwnD wx Bt v (D.drop k) ∧ QT w wx Bt (.node d ks) (.slice A1 d.ms.length n1, .slice A2 d.bys.length n2, .slice A3 ks.length n3) (.slice AD D.length cD) D oth [(eb, 38, (ndC d (.slice A1 d.ms.length n1) (.slice A2 d.bys.length n2) (.slice A3 ks.length n3))), (w.heap.size, 46, dcC oth)])
  case first =>
    cases AD with
    | none =>
      obtain ⟨h0, h0'⟩ := HNIL.out rfl
      obtain rfl : k = 0 := by omega
      subst h0'
      have hD0 := List.eq_nil_of_length_eq_zero h0
      subst hD0
      go_wp2_with fail
      go_meet
      exact ⟨World.ownsRow_nil _ _ _ _, HQ.out⟩
    | some ad =>
      obtain ⟨b, rfl⟩ := HSOME.out ad rfl
      have HSC := Box.mk (src_cells HQ.out.decs hkl)
      by_cases hkc : k = cD
      · subst hkc
        have HKD : Box (D.drop k = []) := ⟨List.drop_eq_nil_of_le (by omega)⟩
        go_wp2_with fail
        go_meet
        exact ⟨by rw [HKD.out]; exact World.ownsRow_nil _ _ _ _, HQ.out⟩
      · have hk1 : ¬ cD = k := by omega
        have hk2 : k < cD := by omega
        have hk3 : (k : Int) ≤ (D.length : Int) := by omega
        have hk4 : (k : Int) < (cD : Int) := by omega
        have hk5 : (D.length : Int) ≤ (cD : Int) := by omega
        have hk6 : (0 : Int) ≤ (k : Int) := by omega
        clear hcap2 hDm hl1 hl2 hss hb1 hb2
        go_wp2_with (at_builtin; refine wpList_append_src rfl _ _ 30 rfl Bt 46 j0 _ 12 120 Tryd.underlying30 HJ.out.1 HJ.out.2.1 HJ.out.2.2.1 HJ.out.2.2.2 rfl (by decide) (.slice none 0 0) 0 [] rfl (World.ownsRow_nil _ _ _ _) (some ⟨b, k * 12, none⟩) (D.length - k) (cD - k) ((D.drop k).flatMap dcL) rfl HDROP.out.1 (fun h => by cases h) (fun ad h j u hu => by cases h; rw [add_none]; exact HSC.out.1 j u hu) (dcs_one fun x hx => HQ.out.decs.2 x (List.mem_of_mem_drop hx)) (by unfold maxLen; omega) (by omega) HQ.out.hi ?_; intro v6 w6 hown6 hg6)
        have HO6 : Box (OwnD w6 Bt v6 (D.drop k)) := ⟨by unfold OwnD; rw [List.length_drop]; simpa using hown6⟩
        have HQ6 := Box.mk (HQ.out.lt hw0 (grow_lt (t := 46) (size := 12) (World.ownsRow_nil _ _ _ _) hg6 HQ.out.hi))
        clear hown6 hg6
        go_wp2_with fail
        go_meet
        exact ⟨HO6.out, HQ6.out⟩
  case rest =>
    clear HQ hcap2 hDm hl1 hl2 hss hb1 hb2
    obtain ⟨hown, hQ⟩ := hcut
    rename World => wd
    have HQ := Box.mk hQ
    have HO := Box.mk hown
    obtain ⟨A5, c5, hv5⟩ := own_form hown
    have hl5 : (D.drop k).length ≤ 5 := by rw [List.length_drop]; omega
    generalize hdl : (D.drop k).length = ndr at hl5 hv5
    clear hown hQ
    subst hv5
    obtain ⟨AO', cO', hlvo, -⟩ := HQ.out.oth.1.form
    have HDC := Box.mk (dc_one oth ⟨AO', _, cO', hlvo⟩)
    have HDL := Box.mk hdl
    clear hlvo hdl
    obtain ⟨o0, o1, o2, o3, o4, o5, o6, o7, o8, o9, o10, o11⟩ := blk12 (HQ.out.vars (w.heap.size, 46, dcC oth) (by simp)).2
    simp only [Nat.zero_add] at o0 o1 o2 o3 o4 o5 o6 o7 o8 o9 o10 o11
    have hhi := HQ.out.hi
    go_upto_region 8 with (at_builtin; refine wpList_append_src rfl _ _ 30 rfl Bt 46 j0 _ 12 120 Tryd.underlying30 HJ.out.1 HJ.out.2.1 HJ.out.2.2.1 HJ.out.2.2.2 rfl (by decide) (.slice A5 ndr c5) ndr ((D.drop k).flatMap dcL) rfl (by have h := HO.out; unfold OwnD at h; rw [HDL.out] at h; exact h.alloc _) (some ⟨wd.heap.size, 0, none⟩) 1 1 (dcL oth) rfl rfl (fun h => by cases h) (fun ad h j u hu => by cases h; exact cells12 _ _ _ _ _ _ _ _ _ _ _ _ _ _ j u hu) HDC.out (by unfold maxLen; omega) (by omega) (by simp; omega) ?_; intro v7 w7 hown7 hg7)
    have HO7 : Box (OwnD w7 Bt v7 (D.drop k ++ [oth])) := ⟨by unfold OwnD; rw [List.length_append, List.flatMap_append, HDL.out]; simpa using hown7⟩
    have HQ7 := Box.mk ((HQ.out.next hw0 (bel1 wd (.cells (dcC oth) 46))).lt hw0 (grow_lt (t := 46) (size := 12) (by have h := HO.out; unfold OwnD at h; rw [HDL.out] at h; exact h.alloc _) hg7 (by simp; omega)))
    clear hown7 hg7 HO HQ o0 o1 o2 o3 o4 o5 o6 o7 o8 o9 o10 o11 hhi
    obtain ⟨A7, c7, hv7⟩ := own_form HO7.out
    have hl7 : (D.drop k ++ [oth]).length = ndr + 1 := by rw [List.length_append, HDL.out]; rfl
    rw [hl7] at hv7
    subst hv7
    have HL7 := Box.mk hl7
    clear hl7
    go_upto_region 8 with (fail)
    go_cut [12] (fun v wx => OwnD wx Bt v (D.drop k ++ oth :: D.take k) ∧ QT w wx Bt (.node d ks) (.slice A1 d.ms.length n1, .slice A2 d.bys.length n2, .slice A3 ks.length n3) (.slice AD D.length cD) D oth [(eb, 38, (ndC d (.slice A1 d.ms.length n1) (.slice A2 d.bys.length n2) (.slice A3 ks.length n3))), (w.heap.size, 46, dcC oth)])
    case first =>
      have hhi := HQ7.out.hi
      cases AD with
      | none =>
        obtain ⟨h0, h0'⟩ := HNIL.out rfl
        obtain rfl : k = 0 := by omega
        subst h0'
        have HT0 := Box.mk h0
        clear h0
        go_wp2_with (at_builtin; refine wpList_append_src rfl _ _ 30 rfl Bt 46 j0 _ 12 120 Tryd.underlying30 HJ.out.1 HJ.out.2.1 HJ.out.2.2.1 HJ.out.2.2.2 rfl (by decide) (.slice A7 (ndr + 1) c7) (ndr + 1) ((D.drop 0 ++ [oth]).flatMap dcL) rfl (by have h := HO7.out; unfold OwnD at h; rw [HL7.out] at h; exact h) none 0 0 [] rfl (by simp) (fun _ => ⟨rfl, rfl⟩) (fun ad h => by cases h) (fun u hu => by cases hu) (by unfold maxLen; omega) (by omega) hhi ?_; intro v8 w8 hown8 hg8)
        have HO8 : Box (OwnD w8 Bt v8 (D.drop 0 ++ oth :: D.take 0)) := ⟨by
          unfold OwnD
          have e : (D.drop 0 ++ oth :: D.take 0) = (D.drop 0 ++ [oth]) := by simp
          rw [e, HL7.out]
          simpa using hown8⟩
        have HQ8 := Box.mk (HQ7.out.lt hw0 (grow_lt (t := 46) (size := 12) (by have h := HO7.out; unfold OwnD at h; rw [HL7.out] at h; exact h) hg8 hhi))
        clear hown8 hg8
        go_wp2_with fail
        go_meet
        exact ⟨HO8.out, HQ8.out⟩
      | some ad =>
        obtain ⟨b, rfl⟩ := HSOME.out ad rfl
        have HSC := Box.mk (src_cells HQ7.out.decs hkl)
        have hk3 : (k : Int) ≤ (D.length : Int) := by omega
        have hk5 : (k : Int) ≤ (cD : Int) := by omega
        have hk6 : (0 : Int) ≤ (k : Int) := by omega
        go_wp2_with (at_builtin; refine wpList_append_src rfl _ _ 30 rfl Bt 46 j0 _ 12 120 Tryd.underlying30 HJ.out.1 HJ.out.2.1 HJ.out.2.2.1 HJ.out.2.2.2 rfl (by decide) (.slice A7 (ndr + 1) c7) (ndr + 1) ((D.drop k ++ [oth]).flatMap dcL) rfl (by have h := HO7.out; unfold OwnD at h; rw [HL7.out] at h; exact h) (some ⟨b, 0, none⟩) k cD ((D.take k).flatMap dcL) rfl HDROP.out.2 (fun h => by cases h) (fun ad h j u hu => by cases h; rw [add_none, Nat.zero_add]; exact HSC.out.2 j u hu) (dcs_one fun x hx => HQ7.out.decs.2 x (List.mem_of_mem_take hx)) (by unfold maxLen; omega) (by omega) hhi ?_; intro v8 w8 hown8 hg8)
        have HO8 : Box (OwnD w8 Bt v8 (D.drop k ++ oth :: D.take k)) := ⟨by
          unfold OwnD
          have e : (D.drop k ++ oth :: D.take k) = (D.drop k ++ [oth]) ++ D.take k := by simp
          rw [e, List.length_append, List.flatMap_append, HL7.out, List.length_take, Nat.min_eq_left hkl]
          exact hown8⟩
        have HQ8 := Box.mk (HQ7.out.lt hw0 (grow_lt (t := 46) (size := 12) (by have h := HO7.out; unfold OwnD at h; rw [HL7.out] at h; exact h) hg8 hhi))
        clear hown8 hg8
        go_wp2_with fail
        go_meet
        exact ⟨HO8.out, HQ8.out⟩
    case rest =>
      clear HQ7 HO7 HL7
      obtain ⟨hown, hQ⟩ := hcut
      rename World => wd
      have HQ := Box.mk hQ
      have HDT : Box (DecsAt wd AnyP _ (D.drop k ++ oth :: D.take k)) := ⟨⟨SeqP.of_own hown fun _ _ _ _ => trivial, fun x hx => by
        rcases List.mem_append.1 hx with hx | hx
        · have := hQ.decs.2 x (List.mem_of_mem_drop hx); exact ⟨this.1.mono fun _ _ _ _ => trivial, this.2⟩
        · rcases List.mem_cons.1 hx with e | hx
          · subst e; exact ⟨hQ.oth.1.mono fun _ _ _ _ => trivial, hQ.oth.2⟩
          · have := hQ.decs.2 x (List.mem_of_mem_take hx); exact ⟨this.1.mono fun _ _ _ _ => trivial, this.2⟩⟩⟩
      have hlt : (D.drop k ++ oth :: D.take k).length ≤ 1000 := by rw [List.length_append, List.length_cons, List.length_drop, List.length_take]; omega
      have HSAME : Box (ofM (dcs D) (.node d ks) = ofM (dcs (D.drop k ++ oth :: D.take k)) (.node d ks)) := ⟨by
        refine of_congr _ _ (fun dd hd x => ?_) HGT.out.1
        have := turned_hits (dcs D) oth.dc k ns3 (by rw [HOTH.out]; exact zname) dd hd x
        simpa [dcs] using this⟩
      generalize hDD : D.drop k ++ oth :: D.take k = DD at HDT hlt HSAME hown
      have HLT := Box.mk hlt
      clear hown hQ hDD hlt
      obtain ⟨k0, k1, k2, k3, k4, k5, k6, k7, k8, k9, k10⟩ := blk11z (HQ.out.vars (eb, 38, (ndC d (.slice A1 d.ms.length n1) (.slice A2 d.bys.length n2) (.slice A3 ks.length n3))) (by simp)).2
      go_wp2_with fail
      refine (of_any (.node d ks) (LowP Bt) _ (.slice A1 d.ms.length n1, .slice A2 d.bys.length n2, .slice A3 ks.length n3) (.slice AD D.length cD) D HQ.out.tree HQ.out.decs (HW0.out.below HQ.out.below) (by omega)).mono ?_
      rintro e w9 ⟨rfl, hb9⟩
      obtain ⟨u, f, HU⟩ : ∃ u f, Box (ofM (dcs D) (.node d ks) = (u, f)) := ⟨_, _, ⟨rfl⟩⟩
      rw [HU.out]
      simp only
      clear k0 k1 k2 k3 k4 k5 k6 k7 k8 k9 k10
      have HQ9 := Box.mk ((HQ.out.next hw0 hb9).next hw0 (bel1 w9 (.cells (uC u) 23)))
      have HDT9 := Box.mk ((HDT.out.keep (Agree.of_below hb9)).keep (Agree.of_below (bel1 w9 (.cells (uC u) 23))))
      have HU9 : Box (Blk (w9.alloc (.cells (uC u) 23)) w9.heap.size 23 (uC u)) := ⟨Blk.new _ _ _⟩
      clear HQ HDT hb9
      go_upto_region 10 with (fail)
      generalize w9.alloc (.cells (uC u) 23) = V9 at *
      generalize w9.heap.size = ub at *
      obtain ⟨k0, k1, k2, k3, k4, k5, k6, k7, k8, k9, k10⟩ := blk11z (HQ9.out.vars (eb, 38, (ndC d (.slice A1 d.ms.length n1) (.slice A2 d.bys.length n2) (.slice A3 ks.length n3))) (by simp)).2
      go_wp2_with fail
      have C9 := of_any (.node d ks) AnyP V9 (.slice A1 d.ms.length n1, .slice A2 d.bys.length n2, .slice A3 ks.length n3) u12 DD (HQ9.out.tree.mono fun _ _ _ _ => trivial) HDT9.out (HW0.out.below HQ9.out.below) HLT.out
      rw [← HSAME.out, HU.out] at C9
      simp only [Tree.d] at C9
      (with_reducible refine C9.mono ?_)
      clear C9
      rintro e w10 ⟨rfl, hb10⟩
      clear k0 k1 k2 k3 k4 k5 k6 k7 k8 k9 k10
      have HB10 := Box.mk ((HQ9.out.next hw0 hb10).next hw0 (bel1 w10 (.cells (uC u) 23))).below
      have HUa := Box.mk ((HU9.out.below hb10).alloc (.cells (uC u) 23))
      have HUb : Box (Blk (w10.alloc (.cells (uC u) 23)) w10.heap.size 23 (uC u)) := ⟨Blk.new _ _ _⟩
      clear HQ9 HDT9 HU9 hb10
      go_upto_region 11 with (fail)
      generalize w10.alloc (.cells (uC u) 23) = V10 at *
      generalize w10.heap.size = vb at *
      have zu : ∀ W, (Op.equalIn 10000 23 (uV u) (uV u)).run Tryd.prog W = .ok true W := fun W => (eq_units u u W).trans (by rw [decide_eq_true rfl])
      obtain ⟨p0, p1, p2⟩ := HUa.out.c3
      obtain ⟨b0, b1, b2⟩ := HUb.out.c3
      go_wp2_with fail
      refine (lives_true _ (HW0.out.below HB10.out).base).mono ?_
      rintro e w11 ⟨rfl, hb11⟩
      have HB11 := Box.mk (bthen HB10.out hb11 (Nat.le_refl _))
      clear hb11
      go_wp2_with fail
      go_ret
      exact ⟨rfl, HB11.out⟩
end
end Go.Proofs.YtgomgoacponbkaaDoor
