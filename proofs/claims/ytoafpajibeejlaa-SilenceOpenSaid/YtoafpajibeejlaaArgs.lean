/- Arguments that are structs: what a silence, a page and a matcher read as. -/
import Derived.Test.YtoafpajibeejlaaGen2
import Derived.Test.YtoafpajibeejlaaOpen
import Derived.Deep.Slices
import Derived.Deep.Fields
import Derived.ProofKit
import Derived.OpenShut
set_option linter.unusedVariables false
set_option linter.unusedSimpArgs false
namespace Go.Proofs.Ytoafpajibeejlaa
open Go.RowKit Go.ChangeShapes Go.WideShapes Go.Deep

section
variable {H : Type} {enc : TypeId × Value → H} {W : World} {base : Nat} {spare : Nat → Bool} {held : Bool}
/-- a struct of one-cell fields: each field is a cell -/
theorem field_of {P : Program} {t : TypeId} {fs : Array Field} {fuel : Nat} {cs : List Value} {x : DataW H × List MemPlace} (hs : P.underlying t = some (.struct fs)) (hone : oneCellFields P fs = true) (hC : P.cellsOf t = fs.size)
    (h : DataW.trod enc P W base spare held fuel t cs = some x) : cs.length = fs.size ∧ ∃ n, ∀ (j : Nat) (f : Field), fs[j]? = some f → ∃ v y, cs[j]? = some v ∧ DataW.trod enc P W base spare held n f.type [v] = some y := by
  obtain ⟨xs, n, _, _, hl, hxl, hf⟩ := DataW.trod_struct hs h
  refine ⟨by rw [hl, hC], n, fun j f hj => ?_⟩
  obtain ⟨ho, hk⟩ := hone_of hone j f hj
  have hjl : j < fs.size := (Array.getElem?_eq_some_iff.1 hj).1
  have hcl : j < cs.length := by rw [hl, hC]; exact hjl
  have h1 := hf j f hj
  rw [ho, hk] at h1
  have e : (cs.drop j).take 1 = [cs[j]'hcl] := by rw [List.drop_eq_getElem_cons hcl]; rfl
  rw [e] at h1
  have hys : xs[j]? = some (xs[j]'(by omega)) := List.getElem?_eq_getElem (by omega)
  exact ⟨cs[j], _, List.getElem?_eq_getElem hcl, h1.trans hys⟩
theorem seq_of_cells {a : Addr} {len cap size : Nat} {t : TypeId} {xs : List Value} (hl : len ≤ cap) (hm : cap ≤ maxLen) (hxs : xs.length = len * size) (hs : 0 < size) (hcell : ∀ j u, xs[j]? = some u → W.cell? (a.add j) = some u) :
    Seq W W.heap.size t size (.slice (some a) len cap) len xs := by
  refine ⟨hxs, some a, cap, rfl, hl, hm, fun h0 => ?_⟩
  have hpos : 0 < xs.length := by rw [hxs]; exact Nat.mul_pos h0 hs
  have h1 := hcell 0 xs[0] (List.getElem?_eq_getElem hpos)
  have hsp : a.spot = none := by
    cases hq : a.spot with
    | none => rfl
    | some q =>
      simp only [Addr.add, if_pos, World.cell?] at h1
      split at h1
      · simp [hq] at h1
      · cases h1
  obtain ⟨b, off, sp⟩ := a
  simp only at hsp
  subst hsp
  have hadd : ∀ j, (⟨b, off, none⟩ : Addr).add j = ⟨b, off + j, none⟩ := fun j => by unfold Addr.add; split <;> simp_all
  have hb : b < W.heap.size := World.block_lt_of_cell? W ⟨b, off, none⟩ (u := xs[0]) (by simpa [Addr.add] using h1)
  refine ⟨b, off, rfl, ⟨hb, .inl hb⟩, fun j u hu => ?_⟩
  have := hcell j u hu
  rwa [hadd] at this
def MatArg (m : Mat) : Prop := m.1.size ≤ maxLen ∧ I64 m.2.1 ∧ m.2.2.size ≤ maxLen
def LabArg (m : Lab) : Prop := m.1.size ≤ maxLen ∧ m.2.size ≤ maxLen
theorem int_wf {n : Int} (h : (Lit.int .i64 n).wf = true) : I64 n := by
  have : -9223372036854775808 ≤ n ∧ n ≤ 9223372036854775807 := by simpa [Lit.wf, IntKind.min, IntKind.max, IntKind.signed, IntKind.bits] using h
  exact this
/-- a slice of structs of one-cell fields, read as a list -/
theorem rows_of {α : Type} [Inhabited α] {t e : TypeId} {fuel : Nat} {v : Value} {x : DataW H × List MemPlace} (size : Nat) (cells : α → List Value) (good : α → Prop) (hcl : ∀ y, (cells y).length = size) (hpos : 0 < size) (ht : Try.prog.underlying t = some (.slice e)) (hC : Try.prog.cellsOf e = size)
    (helem : ∀ (n : Nat) (cs : List Value) (z : DataW H × List MemPlace), DataW.trod enc Try.prog W base spare held n e cs = some z → ∃ y, cs = cells y ∧ good y)
    (h : DataW.trod enc Try.prog W base spare held fuel t [v] = some x) : ∃ (A : Option Addr) (n c : Nat) (l : List α), v = .slice A n c ∧ Seq W W.heap.size e size (.slice A n c) l.length (l.flatMap cells) ∧ (∀ y ∈ l, good y) := by
  rcases open_slice ht h with ⟨h0, _⟩ | ⟨a, len, cap, m, n, D, Pl, hcs, _, hl, hm, hmm, _, hi⟩
  · simp only [List.cons.injEq, and_true] at h0
    subst h0
    exact ⟨none, 0, 0, [], rfl, Seq.nil _ _ _ _, fun y hy => by simp at hy⟩
  · simp only [List.cons.injEq, and_true] at hcs
    subst hcs
    have hlm : len ≤ m := by rw [hmm]; split <;> omega
    have hex : ∀ i : Nat, ∃ y : α, i < len → good y ∧ ∀ j u, (cells y)[j]? = some u → W.cell? (a.add (i * size + j)) = some u := by
      intro i
      by_cases hlt : i < len
      · obtain ⟨cs', hc, htr⟩ := hi i (by omega)
        obtain ⟨y, rfl, hg⟩ := helem _ _ _ htr
        obtain ⟨_, _, hat⟩ := World.cells?_some hc
        refine ⟨y, fun _ => ⟨hg, fun j u hu => ?_⟩⟩
        have hj : j < size := by
          have := (List.getElem?_eq_some_iff.1 hu).1
          rw [hcl] at this; exact this
        have := hat j (by rw [hC]; exact hj)
        rw [hC, Go.Deep.add_add] at this
        rw [this, hu]
      · exact ⟨default, fun h => absurd h hlt⟩
    obtain ⟨f, hf⟩ := Classical.axiomOfChoice hex
    refine ⟨some a, len, cap, (List.range len).map f, rfl, ?_, fun y hy => ?_⟩
    · have hlen : ((List.range len).map f).length = len := by simp
      rw [hlen]
      refine seq_of_cells hl hm ?_ hpos fun j u hu => ?_
      · rw [flat_len cells size hcl, hlen]
      · have hj : j < len * size := by
          have := (List.getElem?_eq_some_iff.1 hu).1
          rw [flat_len cells size hcl, hlen] at this; exact this
        have hk : j / size < len := Nat.div_lt_of_lt_mul (by rw [Nat.mul_comm]; exact hj)
        have hr : j % size < size := Nat.mod_lt _ hpos
        have e : j = j / size * size + j % size := by rw [Nat.mul_comm]; exact (Nat.div_add_mod j size).symm
        have hg : ((List.range len).map f)[j / size]? = some (f (j / size)) := by
          rw [List.getElem?_map, List.getElem?_range hk]; rfl
        rw [e, flat_get cells size hcl _ _ _ _ hg hr] at hu
        have := (hf (j / size) hk).2 _ _ hu
        rwa [← e] at this
    · obtain ⟨i, hir, rfl⟩ := List.mem_map.1 hy
      exact (hf i (List.mem_range.1 hir)).1
theorem two_of {cs : List Value} (h : cs.length = 2) : ∃ a b, cs = [a, b] := by
  match cs, h with
  | [a, b], _ => exact ⟨a, b, rfl⟩
theorem three_of {cs : List Value} (h : cs.length = 3) : ∃ a b c, cs = [a, b, c] := by
  match cs, h with
  | [a, b, c], _ => exact ⟨a, b, c, rfl⟩
theorem mat_of (n : Nat) (cs : List Value) (z : DataW H × List MemPlace) (h : DataW.trod enc Try.prog W base spare held n 27 cs = some z) : ∃ y : Mat, cs = matCells y ∧ MatArg y := by
  obtain ⟨hl, m, hf⟩ := field_of Try.underlying27 (by kernel_rfl) (by kernel_rfl) h
  obtain ⟨a, b, c, rfl⟩ := three_of hl
  obtain ⟨v0, y0, h0, t0⟩ := hf 0 _ rfl
  obtain ⟨v1, y1, h1, t1⟩ := hf 1 _ rfl
  obtain ⟨v2, y2, h2, t2⟩ := hf 2 _ rfl
  cases h0; cases h1; cases h2
  obtain ⟨s0, e0, _, z0⟩ := DataW.trod_string Try.underlying9 t0
  obtain ⟨n1, e1, _, z1⟩ := DataW.trod_int Try.underlying3 t1
  obtain ⟨s2, e2, _, z2⟩ := DataW.trod_string Try.underlying9 t2
  cases e0; cases e1; cases e2
  exact ⟨(s0, n1, s2), rfl, z0, int_wf z1, z2⟩
theorem lab_of (n : Nat) (cs : List Value) (z : DataW H × List MemPlace) (h : DataW.trod enc Try.prog W base spare held n 38 cs = some z) : ∃ y : Lab, cs = labCells y ∧ LabArg y := by
  obtain ⟨hl, m, hf⟩ := field_of Try.underlying38 (by kernel_rfl) (by kernel_rfl) h
  obtain ⟨a, b, rfl⟩ := two_of hl
  obtain ⟨v0, y0, h0, t0⟩ := hf 0 _ rfl
  obtain ⟨v1, y1, h1, t1⟩ := hf 1 _ rfl
  cases h0; cases h1
  obtain ⟨s0, e0, _, z0⟩ := DataW.trod_string Try.underlying9 t0
  obtain ⟨s1, e1, _, z1⟩ := DataW.trod_string Try.underlying9 t1
  cases e0; cases e1
  exact ⟨(s0, s1), rfl, z0, z1⟩
def SilArg (s : Sil) : Prop := (∀ m ∈ s.ms, MatArg m) ∧ s.ow.size ≤ maxLen ∧ s.se.size ≤ maxLen ∧ I64 s.id ∧ I64 s.cl ∧ I64 s.fr ∧ I64 s.un ∧ I64 s.cp ∧ I64 s.hd
instance : Inhabited Mat := ⟨(⟨#[]⟩, 0, ⟨#[]⟩)⟩
instance : Inhabited Lab := ⟨(⟨#[]⟩, ⟨#[]⟩)⟩
/-- a silence that is handed in -/
theorem open_sil {r : Reach} {b0 : Nat} {v : Value} {d : DataW H} {p : List MemPlace} (hv : Value.okWide Try.prog W r b0 24 v) (h : DataW.Trod enc Try.prog W base spare held 24 v d p) :
    ∃ (s : Sil) (A : Option Addr) (n c : Nat), v = .agg #[.int .i64 s.id, .slice A n c, .string s.ow, .string s.se, .int .i64 s.cl, .int .i64 s.fr, .int .i64 s.un, .int .i64 s.cp, .int .i64 s.hd] ∧ Mats W W.heap.size (.slice A n c) s.ms ∧ SilArg s := by
  obtain ⟨cs, rfl, hsz⟩ := okWide_struct Try.underlying24 hv
  obtain ⟨fuel, hf⟩ := h
  obtain ⟨hl, m, hf⟩ := field_of Try.underlying24 (by kernel_rfl) (by kernel_rfl) hf
  obtain ⟨l⟩ := cs
  have hl9 : l.length = 9 := hl
  match l, hl9 with
  | [c0, c1, c2, c3, c4, c5, c6, c7, c8], _ =>
    obtain ⟨v0, y0, h0, t0⟩ := hf 0 _ rfl
    obtain ⟨v1, y1, h1, t1⟩ := hf 1 _ rfl
    obtain ⟨v2, y2, h2, t2⟩ := hf 2 _ rfl
    obtain ⟨v3, y3, h3, t3⟩ := hf 3 _ rfl
    obtain ⟨v4, y4, h4, t4⟩ := hf 4 _ rfl
    obtain ⟨v5, y5, h5, t5⟩ := hf 5 _ rfl
    obtain ⟨v6, y6, h6, t6⟩ := hf 6 _ rfl
    obtain ⟨v7, y7, h7, t7⟩ := hf 7 _ rfl
    obtain ⟨v8, y8, h8, t8⟩ := hf 8 _ rfl
    cases h0; cases h1; cases h2; cases h3; cases h4; cases h5; cases h6; cases h7; cases h8
    obtain ⟨n0, e0, _, z0⟩ := DataW.trod_int Try.underlying3 t0
    obtain ⟨A, n, c, ms, rfl, hms, hg⟩ := rows_of 3 matCells MatArg (fun _ => rfl) (by decide) Try.underlying22 (by kernel_rfl) mat_of t1
    obtain ⟨s2, e2, _, z2⟩ := DataW.trod_string Try.underlying9 t2
    obtain ⟨s3, e3, _, z3⟩ := DataW.trod_string Try.underlying9 t3
    obtain ⟨n4, e4, _, z4⟩ := DataW.trod_int Try.underlying3 t4
    obtain ⟨n5, e5, _, z5⟩ := DataW.trod_int Try.underlying3 t5
    obtain ⟨n6, e6, _, z6⟩ := DataW.trod_int Try.underlying3 t6
    obtain ⟨n7, e7, _, z7⟩ := DataW.trod_int Try.underlying3 t7
    obtain ⟨n8, e8, _, z8⟩ := DataW.trod_int Try.underlying3 t8
    cases e0; cases e2; cases e3; cases e4; cases e5; cases e6; cases e7; cases e8
    exact ⟨⟨n0, ms, s2, s3, n4, n5, n6, n7, n8⟩, A, n, c, rfl, hms, hg, z2, z3, int_wf z0, int_wf z4, int_wf z5, int_wf z6, int_wf z7, int_wf z8⟩
/-- a page that is handed in -/
theorem open_page {r : Reach} {b0 : Nat} {v : Value} {d : DataW H} {p : List MemPlace} (hv : Value.okWide Try.prog W r b0 36 v) (h : DataW.Trod enc Try.prog W base spare held 36 v d p) :
    ∃ (kd ve st sn : Int) (ru to_ : ByteArray) (A : Option Addr) (n c : Nat) (ls : List Lab), v = .agg #[.int .i64 kd, .string ru, .int .i64 ve, .slice A n c, .int .i64 st, .int .i64 sn, .string to_] ∧ Labs W W.heap.size (.slice A n c) ls ∧ ∀ x ∈ ls, LabArg x := by
  obtain ⟨cs, rfl, hsz⟩ := okWide_struct Try.underlying36 hv
  obtain ⟨fuel, hf⟩ := h
  obtain ⟨hl, m, hf⟩ := field_of Try.underlying36 (by kernel_rfl) (by kernel_rfl) hf
  obtain ⟨l⟩ := cs
  have hl7 : l.length = 7 := hl
  match l, hl7 with
  | [c0, c1, c2, c3, c4, c5, c6], _ =>
    obtain ⟨v0, y0, h0, t0⟩ := hf 0 _ rfl
    obtain ⟨v1, y1, h1, t1⟩ := hf 1 _ rfl
    obtain ⟨v2, y2, h2, t2⟩ := hf 2 _ rfl
    obtain ⟨v3, y3, h3, t3⟩ := hf 3 _ rfl
    obtain ⟨v4, y4, h4, t4⟩ := hf 4 _ rfl
    obtain ⟨v5, y5, h5, t5⟩ := hf 5 _ rfl
    obtain ⟨v6, y6, h6, t6⟩ := hf 6 _ rfl
    cases h0; cases h1; cases h2; cases h3; cases h4; cases h5; cases h6
    obtain ⟨n0, e0, _, z0⟩ := DataW.trod_int Try.underlying3 t0
    obtain ⟨s1, e1, _, z1⟩ := DataW.trod_string Try.underlying9 t1
    obtain ⟨n2, e2, _, z2⟩ := DataW.trod_int Try.underlying3 t2
    obtain ⟨A, n, c, ls, rfl, hls, hg⟩ := rows_of 2 labCells LabArg (fun _ => rfl) (by decide) Try.underlying34 (by kernel_rfl) lab_of t3
    obtain ⟨n4, e4, _, z4⟩ := DataW.trod_int Try.underlying3 t4
    obtain ⟨n5, e5, _, z5⟩ := DataW.trod_int Try.underlying3 t5
    obtain ⟨s6, e6, _, z6⟩ := DataW.trod_string Try.underlying9 t6
    cases e0; cases e1; cases e2; cases e4; cases e5; cases e6
    exact ⟨n0, n2, n4, n5, s1, s6, A, n, c, ls, rfl, hls, hg⟩
end
end Go.Proofs.Ytoafpajibeejlaa
