/- Contracts, packed: St. -/
import Derived.Test.YtipafbppaaflcaaDoorPc25
import Derived.Test.YtipafbppaaflcaaDoorPc28
set_option linter.unusedVariables false
set_option linter.unusedSimpArgs false
namespace Go.Proofs.YtipafbppaaflcaaDoor
section
open Go.RowKit Go.ChangeShapes Go.WideShapes Go.Deep
section
variable {H : Type} {enc : TypeId × Value → H} {W : World} {base : Nat} {spare : Nat → Bool} {held : Bool}
def MatArg (m : Mat) : Prop := m.1.size ≤ maxLen ∧ I64 m.2.1 ∧ m.2.2.size ≤ maxLen
theorem three_of9 {cs : List Value} (h : cs.length = 3) : ∃ a b c, cs = [a, b, c] := by
 match cs, h with
 | [a, b, c], _ => exact ⟨a, b, c, rfl⟩
theorem mat_of (n : Nat) (cs : List Value) (z : DataW H × List MemPlace) (h : DataW.trod enc Tryd.prog W base spare held n 71 cs = some z) : ∃ y : Mat, cs = matCells y ∧ MatArg y := by
 obtain ⟨hl, m, hf⟩ := field_of Tryd.underlying71 (by kernel_rfl) (by kernel_rfl) h
 obtain ⟨a, b, c, rfl⟩ := three_of9 hl
 obtain ⟨v0, y0, h0, t0⟩ := hf 0 _ rfl
 obtain ⟨v1, y1, h1, t1⟩ := hf 1 _ rfl
 obtain ⟨v2, y2, h2, t2⟩ := hf 2 _ rfl
 cases h0; cases h1; cases h2
 obtain ⟨s0, e0, _, z0⟩ := DataW.trod_string Tryd.underlying9 t0
 obtain ⟨n1, e1, _, z1⟩ := DataW.trod_int Tryd.underlying3 t1
 obtain ⟨s2, e2, _, z2⟩ := DataW.trod_string Tryd.underlying9 t2
 cases e0; cases e1; cases e2
 exact ⟨(s0, n1, s2), rfl, z0, int_wf z1, z2⟩
theorem str_of (n : Nat) (cs : List Value) (z : DataW H × List MemPlace) (h : DataW.trod enc Tryd.prog W base spare held n 9 cs = some z) : ∃ y : ByteArray, cs = [Value.string y] ∧ y.size ≤ maxLen := by
 obtain ⟨s0, e0, _, z0⟩ := DataW.trod_string Tryd.underlying9 h
 exact ⟨s0, e0, z0⟩
theorem rows_lt {α : Type} [Inhabited α] {t e : TypeId} {fuel : Nat} {v : Value} {x : DataW H × List MemPlace} (size : Nat) (cells : α → List Value) (good : α → Prop) (hcl : ∀ y, (cells y).length = size) (hpos : 0 < size) (ht : Tryd.prog.underlying t = some (.slice e)) (hC : Tryd.prog.cellsOf e = size)
  (helem : ∀ (n : Nat), n < fuel → ∀ (cs : List Value) (z : DataW H × List MemPlace), DataW.trod enc Tryd.prog W base spare held n e cs = some z → ∃ y, cs = cells y ∧ good y)
  (h : DataW.trod enc Tryd.prog W base spare held fuel t [v] = some x) : ∃ (A : Option Addr) (n c : Nat) (l : List α), v = .slice A n c ∧ Seq W W.heap.size e size (.slice A n c) l.length (l.flatMap cells) ∧ (∀ y ∈ l, good y) := by
 rcases DataW.trod_slice ht h with ⟨h0, _⟩ | ⟨a, len, cap, elems, rest, n, hfu, hcs, _, _, hl, hm, hle, hi, _, _⟩
 ·simp only [List.cons.injEq, and_true] at h0
  subst h0
  exact ⟨none, 0, 0, [], rfl, Seq.nil _ _ _ _, fun y hy => by simp at hy⟩
 ·simp only [List.cons.injEq, and_true] at hcs
  subst hcs
  have hex : ∀ i : Nat, ∃ y : α, i < len → good y ∧ ∀ j u, (cells y)[j]? = some u → W.cell? (a.add (i * size + j)) = some u := by
   intro i
   by_cases hlt : i < len
   ·have hii := hi i hlt
    rw [List.getElem?_eq_getElem (by omega : i < elems.length), Option.bind_eq_some_iff] at hii
    obtain ⟨cs', hc, htr⟩ := hii
    obtain ⟨y, rfl, hg⟩ := helem n (by omega) _ _ htr
    obtain ⟨_, _, hat⟩ := World.cells?_some hc
    refine ⟨y, fun _ => ⟨hg, fun j u hu => ?_⟩⟩
    have hj : j < size := by
     have := (List.getElem?_eq_some_iff.1 hu).1
     rw [hcl] at this; exact this
    have := hat j (by rw [hC]; exact hj)
    rw [hC, Go.Deep.add_add] at this
    rw [this, hu]
   ·exact ⟨default, fun h => absurd h hlt⟩
  obtain ⟨f, hf⟩ := Classical.axiomOfChoice hex
  refine ⟨some a, len, cap, (List.range len).map f, rfl, ?_, fun y hy => ?_⟩
  ·have hlen : ((List.range len).map f).length = len := by simp
   rw [hlen]
   refine seq_of_cells hl hm ?_ hpos fun j u hu => ?_
   ·rw [flat_len cells size hcl, hlen]
   ·have hj : j < len * size := by
     have := (List.getElem?_eq_some_iff.1 hu).1
     rw [flat_len cells size hcl, hlen] at this; exact this
    have hk : j / size < len := Nat.div_lt_of_lt_mul (by rw [Nat.mul_comm]; exact hj)
    have hr : j % size < size := Nat.mod_lt _ hpos
    have e : j = j / size * size + j % size := by rw [Nat.mul_comm]; exact (Nat.div_add_mod j size).symm
    have hg : ((List.range len).map f)[j / size]? = some (f (j / size)) := by
     rw [List.getElem?_map, List.getElem?_range hk]; rfl
    rw [e, flat_get cells size hcl _ _ _ _ hg hr] at hu
    have := (hf (j / size) hk).2 _ _ hu
    rwa [← e] at this
  ·obtain ⟨i, hir, rfl⟩ := List.mem_map.1 hy
   exact (hf i (List.mem_range.1 hir)).1
theorem strs_map (l : List ByteArray) : l.flatMap (fun s => [Value.string s]) = l.map Value.string := by
 induction l with
 | nil => rfl
 | cons x xs ih => rw [List.flatMap_cons, ih]; rfl
theorem zip_back {α β : Type} (l : List (α × β)) : (l.map Prod.fst).zip (l.map Prod.snd) = l := by
 induction l with
 | nil => rfl
 | cons x xs ih => simp [ih]
instance : Inhabited Mat := ⟨(⟨#[]⟩, 0, ⟨#[]⟩)⟩
instance : Inhabited (Tree × Sl) := ⟨(.node leafN [], .slice none 0 0, .slice none 0 0, .slice none 0 0)⟩
instance : Inhabited ByteArray := ⟨⟨#[]⟩⟩
set_option maxRecDepth 100000 in
set_option maxHeartbeats 2000000 in
theorem tree_of : ∀ (fuel : Nat) (cs : List Value) (z : DataW H × List MemPlace), DataW.trod enc Tryd.prog W base spare held fuel 29 cs = some z → ∃ y : Tree × Sl, cs = ndL y ∧ TreeAt W AnyP y.1 y.2 := by
 intro fuel
 induction fuel using Nat.strongRecOn with
 | _ fuel ih =>
 intro cs z h
 obtain ⟨xs, m, hfu, _, hl, hxl, hf⟩ := DataW.trod_struct Tryd.underlying29 h
 rw [show Tryd.prog.cellsOf 29 = 11 from by kernel_rfl] at hl
 match cs, hl with
 | [c0, c1, c2, c3, c4, c5, c6, c7, c8, c9, c10], _ =>
  have g0 : DataW.trod enc Tryd.prog W base spare held m 3 ((([c0, c1, c2, c3, c4, c5, c6, c7, c8, c9, c10] : List Value).drop 0).take (Tryd.prog.cellsOf 3)) = xs[0]? := hf 0 _ rfl
  rw [show Tryd.prog.cellsOf 3 = 1 from by kernel_rfl] at g0
  obtain ⟨y0, hy0⟩ : ∃ y, xs[0]? = some y := ⟨xs[0]'(by rw [hxl]; decide), List.getElem?_eq_getElem _⟩
  rw [hy0] at g0
  simp only [List.drop_zero, List.drop_succ_cons, List.take_succ_cons, List.take_zero] at g0
  have g1 : DataW.trod enc Tryd.prog W base spare held m 3 ((([c0, c1, c2, c3, c4, c5, c6, c7, c8, c9, c10] : List Value).drop 1).take (Tryd.prog.cellsOf 3)) = xs[1]? := hf 1 _ rfl
  rw [show Tryd.prog.cellsOf 3 = 1 from by kernel_rfl] at g1
  obtain ⟨y1, hy1⟩ : ∃ y, xs[1]? = some y := ⟨xs[1]'(by rw [hxl]; decide), List.getElem?_eq_getElem _⟩
  rw [hy1] at g1
  simp only [List.drop_zero, List.drop_succ_cons, List.take_succ_cons, List.take_zero] at g1
  have g2 : DataW.trod enc Tryd.prog W base spare held m 3 ((([c0, c1, c2, c3, c4, c5, c6, c7, c8, c9, c10] : List Value).drop 2).take (Tryd.prog.cellsOf 3)) = xs[2]? := hf 2 _ rfl
  rw [show Tryd.prog.cellsOf 3 = 1 from by kernel_rfl] at g2
  obtain ⟨y2, hy2⟩ : ∃ y, xs[2]? = some y := ⟨xs[2]'(by rw [hxl]; decide), List.getElem?_eq_getElem _⟩
  rw [hy2] at g2
  simp only [List.drop_zero, List.drop_succ_cons, List.take_succ_cons, List.take_zero] at g2
  have g3 : DataW.trod enc Tryd.prog W base spare held m 3 ((([c0, c1, c2, c3, c4, c5, c6, c7, c8, c9, c10] : List Value).drop 3).take (Tryd.prog.cellsOf 3)) = xs[3]? := hf 3 _ rfl
  rw [show Tryd.prog.cellsOf 3 = 1 from by kernel_rfl] at g3
  obtain ⟨y3, hy3⟩ : ∃ y, xs[3]? = some y := ⟨xs[3]'(by rw [hxl]; decide), List.getElem?_eq_getElem _⟩
  rw [hy3] at g3
  simp only [List.drop_zero, List.drop_succ_cons, List.take_succ_cons, List.take_zero] at g3
  have g4 : DataW.trod enc Tryd.prog W base spare held m 3 ((([c0, c1, c2, c3, c4, c5, c6, c7, c8, c9, c10] : List Value).drop 4).take (Tryd.prog.cellsOf 3)) = xs[4]? := hf 4 _ rfl
  rw [show Tryd.prog.cellsOf 3 = 1 from by kernel_rfl] at g4
  obtain ⟨y4, hy4⟩ : ∃ y, xs[4]? = some y := ⟨xs[4]'(by rw [hxl]; decide), List.getElem?_eq_getElem _⟩
  rw [hy4] at g4
  simp only [List.drop_zero, List.drop_succ_cons, List.take_succ_cons, List.take_zero] at g4
  have g5 : DataW.trod enc Tryd.prog W base spare held m 24 ((([c0, c1, c2, c3, c4, c5, c6, c7, c8, c9, c10] : List Value).drop 5).take (Tryd.prog.cellsOf 24)) = xs[5]? := hf 5 _ rfl
  rw [show Tryd.prog.cellsOf 24 = 2 from by kernel_rfl] at g5
  obtain ⟨y5, hy5⟩ : ∃ y, xs[5]? = some y := ⟨xs[5]'(by rw [hxl]; decide), List.getElem?_eq_getElem _⟩
  rw [hy5] at g5
  simp only [List.drop_zero, List.drop_succ_cons, List.take_succ_cons, List.take_zero] at g5
  have g6 : DataW.trod enc Tryd.prog W base spare held m 9 ((([c0, c1, c2, c3, c4, c5, c6, c7, c8, c9, c10] : List Value).drop 7).take (Tryd.prog.cellsOf 9)) = xs[6]? := hf 6 _ rfl
  rw [show Tryd.prog.cellsOf 9 = 1 from by kernel_rfl] at g6
  obtain ⟨y6, hy6⟩ : ∃ y, xs[6]? = some y := ⟨xs[6]'(by rw [hxl]; decide), List.getElem?_eq_getElem _⟩
  rw [hy6] at g6
  simp only [List.drop_zero, List.drop_succ_cons, List.take_succ_cons, List.take_zero] at g6
  have g7 : DataW.trod enc Tryd.prog W base spare held m 25 ((([c0, c1, c2, c3, c4, c5, c6, c7, c8, c9, c10] : List Value).drop 8).take (Tryd.prog.cellsOf 25)) = xs[7]? := hf 7 _ rfl
  rw [show Tryd.prog.cellsOf 25 = 1 from by kernel_rfl] at g7
  obtain ⟨y7, hy7⟩ : ∃ y, xs[7]? = some y := ⟨xs[7]'(by rw [hxl]; decide), List.getElem?_eq_getElem _⟩
  rw [hy7] at g7
  simp only [List.drop_zero, List.drop_succ_cons, List.take_succ_cons, List.take_zero] at g7
  have g8 : DataW.trod enc Tryd.prog W base spare held m 26 ((([c0, c1, c2, c3, c4, c5, c6, c7, c8, c9, c10] : List Value).drop 9).take (Tryd.prog.cellsOf 26)) = xs[8]? := hf 8 _ rfl
  rw [show Tryd.prog.cellsOf 26 = 1 from by kernel_rfl] at g8
  obtain ⟨y8, hy8⟩ : ∃ y, xs[8]? = some y := ⟨xs[8]'(by rw [hxl]; decide), List.getElem?_eq_getElem _⟩
  rw [hy8] at g8
  simp only [List.drop_zero, List.drop_succ_cons, List.take_succ_cons, List.take_zero] at g8
  have g9 : DataW.trod enc Tryd.prog W base spare held m 27 ((([c0, c1, c2, c3, c4, c5, c6, c7, c8, c9, c10] : List Value).drop 10).take (Tryd.prog.cellsOf 27)) = xs[9]? := hf 9 _ rfl
  rw [show Tryd.prog.cellsOf 27 = 1 from by kernel_rfl] at g9
  obtain ⟨y9, hy9⟩ : ∃ y, xs[9]? = some y := ⟨xs[9]'(by rw [hxl]; decide), List.getElem?_eq_getElem _⟩
  rw [hy9] at g9
  simp only [List.drop_zero, List.drop_succ_cons, List.take_succ_cons, List.take_zero] at g9
  obtain ⟨n0, e0, _, z0⟩ := DataW.trod_int Tryd.underlying3 g0
  cases e0
  obtain ⟨n1, e1, _, z1⟩ := DataW.trod_int Tryd.underlying3 g1
  cases e1
  obtain ⟨n2, e2, _, z2⟩ := DataW.trod_int Tryd.underlying3 g2
  cases e2
  obtain ⟨n3, e3, _, z3⟩ := DataW.trod_int Tryd.underlying3 g3
  cases e3
  obtain ⟨n4, e4, _, z4⟩ := DataW.trod_int Tryd.underlying3 g4
  cases e4
  obtain ⟨hl5, m5, hf5⟩ := field_of Tryd.underlying24 (by kernel_rfl) (by kernel_rfl) g5
  obtain ⟨v5, yy5, h5, t5⟩ := hf5 0 _ rfl
  obtain ⟨v6, yy6, h6, t6⟩ := hf5 1 _ rfl
  cases h5; cases h6
  obtain ⟨n5, e5, _, z5⟩ := DataW.trod_int Tryd.underlying3 t5
  obtain ⟨n6, e6, _, z6⟩ := DataW.trod_int Tryd.underlying3 t6
  cases e5; cases e6
  obtain ⟨s6, es6, _, zs6⟩ := DataW.trod_string Tryd.underlying9 g6
  cases es6
  obtain ⟨A1, k1, p1, ms, rfl, hms, gms⟩ := rows_lt 3 matCells MatArg (fun _ => rfl) (by decide) Tryd.underlying25 (by kernel_rfl) (fun n _ => mat_of n) g7
  obtain ⟨A2, k2, p2, bys, rfl, hbs, gbs⟩ := rows_lt 1 (fun s => [Value.string s]) (fun s => s.size ≤ maxLen) (fun _ => rfl) (by decide) Tryd.underlying26 (by kernel_rfl) (fun n _ => str_of n) g8
  obtain ⟨A3, k3, p3, kl, rfl, hks, gks⟩ := rows_lt 11 ndL (fun y => TreeAt W AnyP y.1 y.2) (fun _ => rfl) (by decide) Tryd.underlying27 (by kernel_rfl) (fun n hn => ih n (by omega)) g9
  refine ⟨(.node ⟨n0, n1, n2, n3, n4, n5, n6, s6, ms, bys⟩ (kl.map Prod.fst), .slice A1 k1 p1, .slice A2 k2 p2, .slice A3 k3 p3), rfl, ?_⟩
  refine .mk _ _ _ _ _ (kl.map Prod.snd) ⟨⟨int_wf z0, int_wf z1, int_wf z2, int_wf z3, int_wf z4, int_wf z5, int_wf z6⟩, zs6, fun x hx => ⟨(gms x hx).1, (gms x hx).2.2⟩, gbs⟩ (SeqP.of_seq hms fun _ _ _ _ _ => trivial) ?_ (by simp) ?_ ?_
  ·have := SeqP.of_seq (P := AnyP) hbs fun _ _ _ _ _ => trivial
   rw [strs_map] at this
   exact this
  ·have := SeqP.of_seq (P := AnyP) hks fun _ _ _ _ _ => trivial
   rw [zip_back, List.length_map]
   exact this
  ·intro i t c h1 h2
   rw [List.getElem?_map] at h1 h2
   cases hk : kl[i]? with
   | none => rw [hk] at h1; cases h1
   | some y =>
    rw [hk] at h1 h2
    cases h1; cases h2
    exact gks y (List.mem_of_getElem? hk)
set_option maxRecDepth 100000 in
theorem open_tree {r : Reach} {b0 : Nat} {v : Value} {d : DataW H} {p : List MemPlace} (hv : Value.okWide Tryd.prog W r b0 29 v) (h : DataW.Trod enc Tryd.prog W base spare held 29 v d p) :
  ∃ (t : Tree) (s : Sl), v = .agg (ndC t.d s.1 s.2.1 s.2.2) ∧ TreeAt W AnyP t s := by
 obtain ⟨cs, rfl, hsz⟩ := okWide_struct Tryd.underlying29 hv
 obtain ⟨fuel, hf⟩ := h
 obtain ⟨⟨t, s⟩, hcs, ht⟩ := tree_of _ _ _ hf
 refine ⟨t, s, ?_, ht⟩
 obtain ⟨l⟩ := cs
 simp only [Value.cells] at hcs
 have : l = (ndC t.d s.1 s.2.1 s.2.2).toList := hcs
 subst this
 rfl
end
end
end Go.Proofs.YtipafbppaaflcaaDoor
