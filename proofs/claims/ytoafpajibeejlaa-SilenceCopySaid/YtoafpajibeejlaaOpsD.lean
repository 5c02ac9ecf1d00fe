/- The generator of operations. -/
import Derived.Test.YtoafpajibeejlaaGen4
import Derived.Deep.WholeRow
set_option linter.unusedVariables false
set_option linter.unusedSimpArgs false
namespace Go.Proofs.Ytoafpajibeejlaa
open Go.RowKit

structure OpR where
  kind : Int
  s : Sil
  mv : Value
  oid : Int
  ow : ByteArray
  tick : Int
  til : Int
  cls : Int
  lv : Value
  ls : List Lab
def opCells (o : OpR) : List Value := [.int .i64 o.kind, .int .i64 o.s.id, o.mv, .string o.s.ow, .string o.s.se, .int .i64 o.s.cl, .int .i64 o.s.fr, .int .i64 o.s.un, .int .i64 o.s.cp, .int .i64 o.s.hd, .int .i64 o.oid, .string o.ow, .int .i64 o.tick, .int .i64 o.til, .int .i64 o.cls, .int .i64 0, .string ⟨#[114]⟩, .int .i64 1, o.lv, .int .i64 o.tick, .int .i64 0, .string ⟨#[]⟩]
def OpFit (o : OpR) : Prop := GFit o.tick o.s ∧ (0 ≤ o.kind ∧ o.kind ≤ 3) ∧ (1 ≤ o.oid ∧ o.oid ≤ 5) ∧ (0 ≤ o.tick ∧ o.tick ≤ 100) ∧ (0 ≤ o.til ∧ o.til ≤ 2000) ∧ (0 ≤ o.cls ∧ o.cls ≤ 4) ∧ o.ls.length ≤ 6 ∧ ∀ x ∈ o.ls, GoodLab x
def OpsOk (w : World) (base : Nat) (l : List OpR) : Prop := ∀ o ∈ l, Mats w base o.mv o.s.ms ∧ Labs w base o.lv o.ls ∧ OpFit o
theorem OpsOk.below {w w' : World} {base : Nat} {l : List OpR} (h : OpsOk w base l) (f : Below w.heap.size w w') : OpsOk w' base l := fun o ho => ⟨(h o ho).1.below f, (h o ho).2.1.below f, (h o ho).2.2⟩
theorem OpsOk.keep {w w' : World} {base : Nat} {T : List TypeId} {l : List OpR} (h : OpsOk w base l) (f : Fr base T w w') (h1 : 27 ∉ T) (h2 : 38 ∉ T) : OpsOk w' base l := fun o ho => ⟨(h o ho).1.keep f h1, (h o ho).2.1.keep f h2, (h o ho).2.2⟩
/-- a slice of operations in memory -/
def OpsAt (w : World) (base : Nat) (v : Value) (l : List OpR) : Prop := Seq w base 42 22 v l.length (l.flatMap opCells) ∧ OpsOk w base l
def RetOps (w : World) (base : Nat) (e : Ending) (w' : World) : Prop := ∃ l A c, e = .returned (.slice A l.length c) ∧ OpsAt w' base (.slice A l.length c) l ∧ l.length ≤ 14 ∧ Below w.heap.size w w'

theorem opInfo : (Try.prog.info? 42).map (fun i => (i.zero, i.size, i.bytes)) = some (some (.agg #[.int .i64 0, .int .i64 0, .slice none 0 0, .string ⟨#[]⟩, .string ⟨#[]⟩, .int .i64 0, .int .i64 0, .int .i64 0, .int .i64 0, .int .i64 0, .int .i64 0, .string ⟨#[]⟩, .int .i64 0, .int .i64 0, .int .i64 0, .int .i64 0, .string ⟨#[]⟩, .int .i64 0, .slice none 0 0, .int .i64 0, .int .i64 0, .string ⟨#[]⟩]), 22, 248) := by kernel_rfl
theorem cells22 {w : World} {k : Nat} (h : w.heap.size = k) (t : TypeId) (v0 v1 v2 v3 v4 v5 v6 v7 v8 v9 v10 v11 v12 v13 v14 v15 v16 v17 v18 v19 v20 v21 : Value) : ∀ j u, [v0, v1, v2, v3, v4, v5, v6, v7, v8, v9, v10, v11, v12, v13, v14, v15, v16, v17, v18, v19, v20, v21][j]? = some u → (w.alloc (.cells #[v0, v1, v2, v3, v4, v5, v6, v7, v8, v9, v10, v11, v12, v13, v14, v15, v16, v17, v18, v19, v20, v21] t)).cell? ((⟨k, 0, none⟩ : Addr).add j) = some u := by
  subst h
  intro j u hj
  have hlt : j < 22 := by
    have := (List.getElem?_eq_some_iff.1 hj).1
    simpa using this
  have e := cell_of_row (w.alloc (.cells #[v0, v1, v2, v3, v4, v5, v6, v7, v8, v9, v10, v11, v12, v13, v14, v15, v16, v17, v18, v19, v20, v21] t)) w.heap.size j #[v0, v1, v2, v3, v4, v5, v6, v7, v8, v9, v10, v11, v12, v13, v14, v15, v16, v17, v18, v19, v20, v21] t (0, 0) (heap_alloc_new w _)
  have e2 : (⟨w.heap.size, 0, none⟩ : Addr).add j = ⟨w.heap.size, j, none⟩ := by unfold Addr.add; split <;> simp_all
  rw [e2, e]
  simpa using hj
theorem Blk.twentytwo {w : World} {b : Nat} {t : TypeId} {v0 v1 v2 v3 v4 v5 v6 v7 v8 v9 v10 v11 v12 v13 v14 v15 v16 v17 v18 v19 v20 v21 : Value} (h : Blk w b t #[v0, v1, v2, v3, v4, v5, v6, v7, v8, v9, v10, v11, v12, v13, v14, v15, v16, v17, v18, v19, v20, v21]) : w.cell? ⟨b, 0, none⟩ = some v0 ∧ w.cell? ⟨b, 1, none⟩ = some v1 ∧ w.cell? ⟨b, 2, none⟩ = some v2 ∧ w.cell? ⟨b, 3, none⟩ = some v3 ∧ w.cell? ⟨b, 4, none⟩ = some v4 ∧ w.cell? ⟨b, 5, none⟩ = some v5 ∧ w.cell? ⟨b, 6, none⟩ = some v6 ∧ w.cell? ⟨b, 7, none⟩ = some v7 ∧ w.cell? ⟨b, 8, none⟩ = some v8 ∧ w.cell? ⟨b, 9, none⟩ = some v9 ∧ w.cell? ⟨b, 10, none⟩ = some v10 ∧ w.cell? ⟨b, 11, none⟩ = some v11 ∧ w.cell? ⟨b, 12, none⟩ = some v12 ∧ w.cell? ⟨b, 13, none⟩ = some v13 ∧ w.cell? ⟨b, 14, none⟩ = some v14 ∧ w.cell? ⟨b, 15, none⟩ = some v15 ∧ w.cell? ⟨b, 16, none⟩ = some v16 ∧ w.cell? ⟨b, 17, none⟩ = some v17 ∧ w.cell? ⟨b, 18, none⟩ = some v18 ∧ w.cell? ⟨b, 19, none⟩ = some v19 ∧ w.cell? ⟨b, 20, none⟩ = some v20 ∧ w.cell? ⟨b, 21, none⟩ = some v21 := by
  unfold Blk at h
  simp [World.cell?, h]

theorem wpList_store_new {P : Program} {W : World} {ops : Array Oper} {rest : List Oper} {o : Oper} {a : Act} {Q : Exit → Act → World → Prop} (hgd : o.guard = none) (ty : TypeId) (x y : Operand) (ho : o.op = .store ty x y)
    (k : Nat) (hk : W.heap.size = k) (cells old : Array Value) (hx : a.eval x = .pointer (some ⟨k, 0, none⟩)) (hy : a.eval y = .agg cells) (hi : (P.info? ty).map (·.size) = some cells.size)
    (hold : old.size = cells.size) (h1 : cells.all (·.oneCell') = true)
    (h : wpList P ops Q rest (a.put o.dst undef) (W.alloc (.cells cells ty))) : wpList P ops Q (o :: rest) a (W.alloc (.cells old ty)) := by
  subst hk
  refine wpList_store_row hgd ty x y ho W.heap.size cells hx hy ty old (heap_alloc_new W _) hi hold h1 ?_
  rw [World.setRow_alloc_new]
  exact h
theorem fr_set9' {base : Nat} {T : List TypeId} {w : World} {b : Nat} {t : TypeId} (ht : TyAt w b t) (hT : t ∈ T) (hb : base ≤ b) (v0 v1 v2 v3 v4 v5 v6 v7 v8 : Value) : Fr base T w (((((((((w.setCell ⟨b, 1, none⟩ v0).setCell ⟨b, 2, none⟩ v1).setCell ⟨b, 3, none⟩ v2).setCell ⟨b, 4, none⟩ v3).setCell ⟨b, 5, none⟩ v4).setCell ⟨b, 6, none⟩ v5).setCell ⟨b, 7, none⟩ v6).setCell ⟨b, 8, none⟩ v7).setCell ⟨b, 9, none⟩ v8) := by
  have h0 := Fr.setAt (Fr.refl base T w) ht hT hb 1 v0
  have t0 := ht.set ⟨b, 1, none⟩ v0
  have h1 := Fr.setAt (h0) t0 hT hb 2 v1
  have t1 := t0.set ⟨b, 2, none⟩ v1
  have h2 := Fr.setAt (h1) t1 hT hb 3 v2
  have t2 := t1.set ⟨b, 3, none⟩ v2
  have h3 := Fr.setAt (h2) t2 hT hb 4 v3
  have t3 := t2.set ⟨b, 4, none⟩ v3
  have h4 := Fr.setAt (h3) t3 hT hb 5 v4
  have t4 := t3.set ⟨b, 5, none⟩ v4
  have h5 := Fr.setAt (h4) t4 hT hb 6 v5
  have t5 := t4.set ⟨b, 6, none⟩ v5
  have h6 := Fr.setAt (h5) t5 hT hb 7 v6
  have t6 := t5.set ⟨b, 7, none⟩ v6
  have h7 := Fr.setAt (h6) t6 hT hb 8 v7
  have t7 := t6.set ⟨b, 8, none⟩ v7
  have h8 := Fr.setAt (h7) t7 hT hb 9 v8
  have t8 := t7.set ⟨b, 9, none⟩ v8
  exact h8
theorem below_set9' {B : Nat} (w : World) {b : Nat} (hb : B ≤ b) (v0 v1 v2 v3 v4 v5 v6 v7 v8 : Value) : Below B w (((((((((w.setCell ⟨b, 1, none⟩ v0).setCell ⟨b, 2, none⟩ v1).setCell ⟨b, 3, none⟩ v2).setCell ⟨b, 4, none⟩ v3).setCell ⟨b, 5, none⟩ v4).setCell ⟨b, 6, none⟩ v5).setCell ⟨b, 7, none⟩ v6).setCell ⟨b, 8, none⟩ v7).setCell ⟨b, 9, none⟩ v8) := by
  have h0 := Below.setCell (Below.refl B w) (p := ⟨b, 1, none⟩) hb v0
  have h1 := Below.setCell (h0) (p := ⟨b, 2, none⟩) hb v1
  have h2 := Below.setCell (h1) (p := ⟨b, 3, none⟩) hb v2
  have h3 := Below.setCell (h2) (p := ⟨b, 4, none⟩) hb v3
  have h4 := Below.setCell (h3) (p := ⟨b, 5, none⟩) hb v4
  have h5 := Below.setCell (h4) (p := ⟨b, 6, none⟩) hb v5
  have h6 := Below.setCell (h5) (p := ⟨b, 7, none⟩) hb v6
  have h7 := Below.setCell (h6) (p := ⟨b, 8, none⟩) hb v7
  have h8 := Below.setCell (h7) (p := ⟨b, 9, none⟩) hb v8
  exact h8
theorem blk_set9 {w : World} {b : Nat} {t : TypeId} {v0 v1 v2 v3 v4 v5 v6 v7 v8 v9 v10 v11 v12 v13 v14 v15 v16 v17 v18 v19 v20 v21 : Value} (h : Blk w b t #[v0, v1, v2, v3, v4, v5, v6, v7, v8, v9, v10, v11, v12, v13, v14, v15, v16, v17, v18, v19, v20, v21]) (s0 s1 s2 s3 s4 s5 s6 s7 s8 : Value) : Blk (((((((((w.setCell ⟨b, 1, none⟩ s0).setCell ⟨b, 2, none⟩ s1).setCell ⟨b, 3, none⟩ s2).setCell ⟨b, 4, none⟩ s3).setCell ⟨b, 5, none⟩ s4).setCell ⟨b, 6, none⟩ s5).setCell ⟨b, 7, none⟩ s6).setCell ⟨b, 8, none⟩ s7).setCell ⟨b, 9, none⟩ s8) b t #[v0, s0, s1, s2, s3, s4, s5, s6, s7, s8, v10, v11, v12, v13, v14, v15, v16, v17, v18, v19, v20, v21] := by
  have h0 : Blk (w.setCell ⟨b, 1, none⟩ s0) b t #[v0, s0, v2, v3, v4, v5, v6, v7, v8, v9, v10, v11, v12, v13, v14, v15, v16, v17, v18, v19, v20, v21] := by have := (h).set 1 s0; simpa using this
  have h1 : Blk ((w.setCell ⟨b, 1, none⟩ s0).setCell ⟨b, 2, none⟩ s1) b t #[v0, s0, s1, v3, v4, v5, v6, v7, v8, v9, v10, v11, v12, v13, v14, v15, v16, v17, v18, v19, v20, v21] := by have := (h0).set 2 s1; simpa using this
  have h2 : Blk (((w.setCell ⟨b, 1, none⟩ s0).setCell ⟨b, 2, none⟩ s1).setCell ⟨b, 3, none⟩ s2) b t #[v0, s0, s1, s2, v4, v5, v6, v7, v8, v9, v10, v11, v12, v13, v14, v15, v16, v17, v18, v19, v20, v21] := by have := (h1).set 3 s2; simpa using this
  have h3 : Blk ((((w.setCell ⟨b, 1, none⟩ s0).setCell ⟨b, 2, none⟩ s1).setCell ⟨b, 3, none⟩ s2).setCell ⟨b, 4, none⟩ s3) b t #[v0, s0, s1, s2, s3, v5, v6, v7, v8, v9, v10, v11, v12, v13, v14, v15, v16, v17, v18, v19, v20, v21] := by have := (h2).set 4 s3; simpa using this
  have h4 : Blk (((((w.setCell ⟨b, 1, none⟩ s0).setCell ⟨b, 2, none⟩ s1).setCell ⟨b, 3, none⟩ s2).setCell ⟨b, 4, none⟩ s3).setCell ⟨b, 5, none⟩ s4) b t #[v0, s0, s1, s2, s3, s4, v6, v7, v8, v9, v10, v11, v12, v13, v14, v15, v16, v17, v18, v19, v20, v21] := by have := (h3).set 5 s4; simpa using this
  have h5 : Blk ((((((w.setCell ⟨b, 1, none⟩ s0).setCell ⟨b, 2, none⟩ s1).setCell ⟨b, 3, none⟩ s2).setCell ⟨b, 4, none⟩ s3).setCell ⟨b, 5, none⟩ s4).setCell ⟨b, 6, none⟩ s5) b t #[v0, s0, s1, s2, s3, s4, s5, v7, v8, v9, v10, v11, v12, v13, v14, v15, v16, v17, v18, v19, v20, v21] := by have := (h4).set 6 s5; simpa using this
  have h6 : Blk (((((((w.setCell ⟨b, 1, none⟩ s0).setCell ⟨b, 2, none⟩ s1).setCell ⟨b, 3, none⟩ s2).setCell ⟨b, 4, none⟩ s3).setCell ⟨b, 5, none⟩ s4).setCell ⟨b, 6, none⟩ s5).setCell ⟨b, 7, none⟩ s6) b t #[v0, s0, s1, s2, s3, s4, s5, s6, v8, v9, v10, v11, v12, v13, v14, v15, v16, v17, v18, v19, v20, v21] := by have := (h5).set 7 s6; simpa using this
  have h7 : Blk ((((((((w.setCell ⟨b, 1, none⟩ s0).setCell ⟨b, 2, none⟩ s1).setCell ⟨b, 3, none⟩ s2).setCell ⟨b, 4, none⟩ s3).setCell ⟨b, 5, none⟩ s4).setCell ⟨b, 6, none⟩ s5).setCell ⟨b, 7, none⟩ s6).setCell ⟨b, 8, none⟩ s7) b t #[v0, s0, s1, s2, s3, s4, s5, s6, s7, v9, v10, v11, v12, v13, v14, v15, v16, v17, v18, v19, v20, v21] := by have := (h6).set 8 s7; simpa using this
  have h8 : Blk (((((((((w.setCell ⟨b, 1, none⟩ s0).setCell ⟨b, 2, none⟩ s1).setCell ⟨b, 3, none⟩ s2).setCell ⟨b, 4, none⟩ s3).setCell ⟨b, 5, none⟩ s4).setCell ⟨b, 6, none⟩ s5).setCell ⟨b, 7, none⟩ s6).setCell ⟨b, 8, none⟩ s7).setCell ⟨b, 9, none⟩ s8) b t #[v0, s0, s1, s2, s3, s4, s5, s6, s7, s8, v10, v11, v12, v13, v14, v15, v16, v17, v18, v19, v20, v21] := by have := (h7).set 9 s8; simpa using this
  exact h8
theorem blk_set7 {w : World} {b : Nat} {t : TypeId} {v0 v1 v2 v3 v4 v5 v6 v7 v8 v9 v10 v11 v12 v13 v14 v15 v16 v17 v18 v19 v20 v21 : Value} (h : Blk w b t #[v0, v1, v2, v3, v4, v5, v6, v7, v8, v9, v10, v11, v12, v13, v14, v15, v16, v17, v18, v19, v20, v21]) (s0 s1 s2 s3 s4 s5 s6 : Value) : Blk (((((((w.setCell ⟨b, 15, none⟩ s0).setCell ⟨b, 16, none⟩ s1).setCell ⟨b, 17, none⟩ s2).setCell ⟨b, 18, none⟩ s3).setCell ⟨b, 19, none⟩ s4).setCell ⟨b, 20, none⟩ s5).setCell ⟨b, 21, none⟩ s6) b t #[v0, v1, v2, v3, v4, v5, v6, v7, v8, v9, v10, v11, v12, v13, v14, s0, s1, s2, s3, s4, s5, s6] := by
  have h0 : Blk (w.setCell ⟨b, 15, none⟩ s0) b t #[v0, v1, v2, v3, v4, v5, v6, v7, v8, v9, v10, v11, v12, v13, v14, s0, v16, v17, v18, v19, v20, v21] := by have := (h).set 15 s0; simpa using this
  have h1 : Blk ((w.setCell ⟨b, 15, none⟩ s0).setCell ⟨b, 16, none⟩ s1) b t #[v0, v1, v2, v3, v4, v5, v6, v7, v8, v9, v10, v11, v12, v13, v14, s0, s1, v17, v18, v19, v20, v21] := by have := (h0).set 16 s1; simpa using this
  have h2 : Blk (((w.setCell ⟨b, 15, none⟩ s0).setCell ⟨b, 16, none⟩ s1).setCell ⟨b, 17, none⟩ s2) b t #[v0, v1, v2, v3, v4, v5, v6, v7, v8, v9, v10, v11, v12, v13, v14, s0, s1, s2, v18, v19, v20, v21] := by have := (h1).set 17 s2; simpa using this
  have h3 : Blk ((((w.setCell ⟨b, 15, none⟩ s0).setCell ⟨b, 16, none⟩ s1).setCell ⟨b, 17, none⟩ s2).setCell ⟨b, 18, none⟩ s3) b t #[v0, v1, v2, v3, v4, v5, v6, v7, v8, v9, v10, v11, v12, v13, v14, s0, s1, s2, s3, v19, v20, v21] := by have := (h2).set 18 s3; simpa using this
  have h4 : Blk (((((w.setCell ⟨b, 15, none⟩ s0).setCell ⟨b, 16, none⟩ s1).setCell ⟨b, 17, none⟩ s2).setCell ⟨b, 18, none⟩ s3).setCell ⟨b, 19, none⟩ s4) b t #[v0, v1, v2, v3, v4, v5, v6, v7, v8, v9, v10, v11, v12, v13, v14, s0, s1, s2, s3, s4, v20, v21] := by have := (h3).set 19 s4; simpa using this
  have h5 : Blk ((((((w.setCell ⟨b, 15, none⟩ s0).setCell ⟨b, 16, none⟩ s1).setCell ⟨b, 17, none⟩ s2).setCell ⟨b, 18, none⟩ s3).setCell ⟨b, 19, none⟩ s4).setCell ⟨b, 20, none⟩ s5) b t #[v0, v1, v2, v3, v4, v5, v6, v7, v8, v9, v10, v11, v12, v13, v14, s0, s1, s2, s3, s4, s5, v21] := by have := (h4).set 20 s5; simpa using this
  have h6 : Blk (((((((w.setCell ⟨b, 15, none⟩ s0).setCell ⟨b, 16, none⟩ s1).setCell ⟨b, 17, none⟩ s2).setCell ⟨b, 18, none⟩ s3).setCell ⟨b, 19, none⟩ s4).setCell ⟨b, 20, none⟩ s5).setCell ⟨b, 21, none⟩ s6) b t #[v0, v1, v2, v3, v4, v5, v6, v7, v8, v9, v10, v11, v12, v13, v14, s0, s1, s2, s3, s4, s5, s6] := by have := (h5).set 21 s6; simpa using this
  exact h6
theorem fr_set7 {base : Nat} {T : List TypeId} {w : World} {b : Nat} {t : TypeId} (ht : TyAt w b t) (hT : t ∈ T) (hb : base ≤ b) (v0 v1 v2 v3 v4 v5 v6 : Value) : Fr base T w (((((((w.setCell ⟨b, 15, none⟩ v0).setCell ⟨b, 16, none⟩ v1).setCell ⟨b, 17, none⟩ v2).setCell ⟨b, 18, none⟩ v3).setCell ⟨b, 19, none⟩ v4).setCell ⟨b, 20, none⟩ v5).setCell ⟨b, 21, none⟩ v6) := by
  have h0 := Fr.setAt (Fr.refl base T w) ht hT hb 15 v0
  have t0 := ht.set ⟨b, 15, none⟩ v0
  have h1 := Fr.setAt (h0) t0 hT hb 16 v1
  have t1 := t0.set ⟨b, 16, none⟩ v1
  have h2 := Fr.setAt (h1) t1 hT hb 17 v2
  have t2 := t1.set ⟨b, 17, none⟩ v2
  have h3 := Fr.setAt (h2) t2 hT hb 18 v3
  have t3 := t2.set ⟨b, 18, none⟩ v3
  have h4 := Fr.setAt (h3) t3 hT hb 19 v4
  have t4 := t3.set ⟨b, 19, none⟩ v4
  have h5 := Fr.setAt (h4) t4 hT hb 20 v5
  have t5 := t4.set ⟨b, 20, none⟩ v5
  have h6 := Fr.setAt (h5) t5 hT hb 21 v6
  have t6 := t5.set ⟨b, 21, none⟩ v6
  exact h6
theorem below_set7 {B : Nat} (w : World) {b : Nat} (hb : B ≤ b) (v0 v1 v2 v3 v4 v5 v6 : Value) : Below B w (((((((w.setCell ⟨b, 15, none⟩ v0).setCell ⟨b, 16, none⟩ v1).setCell ⟨b, 17, none⟩ v2).setCell ⟨b, 18, none⟩ v3).setCell ⟨b, 19, none⟩ v4).setCell ⟨b, 20, none⟩ v5).setCell ⟨b, 21, none⟩ v6) := by
  have h0 := Below.setCell (Below.refl B w) (p := ⟨b, 15, none⟩) hb v0
  have h1 := Below.setCell (h0) (p := ⟨b, 16, none⟩) hb v1
  have h2 := Below.setCell (h1) (p := ⟨b, 17, none⟩) hb v2
  have h3 := Below.setCell (h2) (p := ⟨b, 18, none⟩) hb v3
  have h4 := Below.setCell (h3) (p := ⟨b, 19, none⟩) hb v4
  have h5 := Below.setCell (h4) (p := ⟨b, 20, none⟩) hb v5
  have h6 := Below.setCell (h5) (p := ⟨b, 21, none⟩) hb v6
  exact h6
theorem op_one (o : OpR) (h1 : o.mv.oneCell' = true) (h2 : o.lv.oneCell' = true) : ∀ u ∈ opCells o, u.oneCell' = true := by
  intro u hu
  simp [opCells] at hu
  rcases hu with rfl | rfl | rfl | rfl | rfl | rfl | rfl | rfl | rfl | rfl | rfl | rfl | rfl | rfl | rfl | rfl | rfl | rfl | rfl | rfl | rfl | rfl <;> first | rfl | assumption
theorem ops_next {w wr W9 w9 : World} {o1 : Obj} {base k : Nat} {lo : List OpR} {o : OpR} {v v' : Value} (hbase : base ≤ w.heap.size) (hown : wr.ownsRow w.heap.size 42 22 v k (lo.flatMap opCells)) (hok : OpsOk wr base lo) (hbw : Below w.heap.size w wr) (hb9 : Below wr.heap.size wr W9)
    (ho : Mats W9 base o.mv o.s.ms ∧ Labs W9 base o.lv o.ls ∧ OpFit o) (hown9 : w9.ownsRow w.heap.size 42 22 v' (k + 1) (lo.flatMap opCells ++ opCells o)) (hg9 : (W9.alloc o1).grownBy w9 v.ownBlock) :
    w9.ownsRow w.heap.size 42 22 v' (k + 1) ((lo ++ [o]).flatMap opCells) ∧ OpsOk w9 base (lo ++ [o]) ∧ Below w.heap.size w w9 := by
  have hown2 := (own_below hown hb9).alloc o1
  have hty := own_ty hown2
  have f : Fr base [42] (W9.alloc o1) w9 := Fr.grown (Fr.refl _ _ _) hg9 (fun g hg => ⟨Nat.le_trans hbase (hty g hg).1, (hty g hg).2⟩) (by simp)
  have hz : w.heap.size ≤ W9.heap.size := by have := hb9.size; have := hbw.size; omega
  refine ⟨by rw [List.flatMap_append]; simpa using hown9, fun x hx => ?_, ?_⟩
  · rcases List.mem_append.1 hx with hx | hx
    · exact ((hok.below hb9).below (bel1 _ _)).keep f (by decide) (by decide) x hx
    · simp at hx; subst hx
      exact ⟨(ho.1.below (bel1 _ _)).keep f (by decide), (ho.2.1.below (bel1 _ _)).keep f (by decide), ho.2.2⟩
  · have h2 : Below w.heap.size w W9 := hbw.trans (hb9.mono hbw.size)
    exact (h2.alloc hz _).grown hg9 (by simp; omega) (fun g hg => (hty g hg).1)
/-- between two statements of a round: the block of the operation -/
def OCut (wr : World) (cs : Int → Int → Array Value) (wx : World) : Prop := ∃ kd til : Int, (0 ≤ kd ∧ kd ≤ 3) ∧ (0 ≤ til ∧ til ≤ 2000) ∧ Blk wx (wr.heap.size + 1) 42 (cs kd til) ∧ Below wr.heap.size wr wx
def OpsRel (w : World) (base : Nat) (v tk i : Value) (wr : World) : Prop :=
  ∃ (k : Nat) (lo : List OpR) (t : Int), k ≤ 14 ∧ i = .int .i64 k ∧ tk = .int .i64 t ∧ 0 ≤ t ∧ t ≤ 5 * k ∧ lo.length = k ∧ wr.ownsRow w.heap.size 42 22 v k (lo.flatMap opCells) ∧ OpsOk wr base lo ∧ Below w.heap.size w wr

/-- the contract of Ops, as a premise of the walks that use it -/
def OpsC : Prop := ∀ (A : Option Addr) (n c base : Nat) (l : List Int) (w : World), Ints w base (.slice A n c) l → base ≤ w.heap.size → Calls Try.prog 16 #[.slice A n c] w (RetOps w base)
end Go.Proofs.Ytoafpajibeejlaa
