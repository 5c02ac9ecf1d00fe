/- Operations in memory. -/
import Derived.Test.YtoafpajibeejlaaOpsD
import Derived.Test.YtoafpajibeejlaaLimit
import Derived.Deep.MidRow
set_option linter.unusedVariables false
set_option linter.unusedSimpArgs false
namespace Go.Proofs.Ytoafpajibeejlaa
open Go.RowKit

/-- the cells of one operation -/
def At22 (w : World) (b off : Nat) (o : OpR) : Prop := ∀ j u, (opCells o)[j]? = some u → w.cell? ⟨b, off + j, none⟩ = some u
theorem OpsAt.at_ {w : World} {base : Nat} {A : Option Addr} {n c : Nat} {l : List OpR} (h : OpsAt w base (.slice A n c) l) (k : Nat) (x : OpR) (hk : l[k]? = some x) :
    ∃ b off, A = some ⟨b, off, none⟩ ∧ b < w.heap.size ∧ At22 w b (off + k * 22) x ∧ Mats w base x.mv x.s.ms ∧ Labs w base x.lv x.ls ∧ OpFit x := by
  obtain ⟨⟨_, A', c', hv, _, _, h2⟩, hok⟩ := h
  cases hv
  have hlt : k < l.length := (List.getElem?_eq_some_iff.1 hk).1
  obtain ⟨b, off, rfl, hf, hx⟩ := h2 (by omega)
  refine ⟨b, off, rfl, hf.1, ?_, hok x (List.mem_of_getElem? hk)⟩
  intro j u hu
  have hj : j < 22 := by
    have := (List.getElem?_eq_some_iff.1 hu).1
    simpa [opCells] using this
  have e := flat_get opCells 22 (fun _ => rfl) l k j x hk hj
  have := hx (k * 22 + j) u (e.trans hu)
  rwa [← Nat.add_assoc] at this
theorem OpsAt.below {w w' : World} {base : Nat} {v : Value} {l : List OpR} (h : OpsAt w base v l) (f : Below w.heap.size w w') : OpsAt w' base v l := ⟨h.1.below f, h.2.below f⟩
theorem OpsAt.keep {w w' : World} {base : Nat} {T : List TypeId} {v : Value} {l : List OpR} (h : OpsAt w base v l) (f : Fr base T w w') (h0 : 42 ∉ T) (h1 : 27 ∉ T) (h2 : 38 ∉ T) : OpsAt w' base v l := ⟨h.1.keep f h0, h.2.keep f h1 h2⟩
theorem OpsAt.len {w : World} {base : Nat} {A : Option Addr} {n c : Nat} {l : List OpR} (h : OpsAt w base (.slice A n c) l) : n = l.length := by
  obtain ⟨⟨_, A', c', hv, _, _, h2⟩, hok⟩ := h
  cases hv
  rfl

theorem Labs.form {w : World} {base : Nat} {v : Value} {l : List Lab} (h : Labs w base v l) : ∃ A c, v = .slice A l.length c := by
  obtain ⟨_, A, c, hv, _⟩ := h
  exact ⟨A, c, hv⟩

theorem opSize : (Try.prog.info? 42).map (·.size) = some 22 := by kernel_rfl
theorem opUnder : ∃ d, Try.prog.underlying 42 = some d ∧ d.isRow = true := ⟨_, Try.underlying42, rfl⟩
/-- one operation at a place, its fields laid open; what the rounds of all walks begin with -/
theorem OpsAt.open_ {w : World} {base : Nat} {A : Option Addr} {c : Nat} {l : List OpR} (h : OpsAt w base (.slice A l.length c) l) (k : Nat) (hk : k < l.length) :
    ∃ (kind : Int) (s : Sil) (A2 : Option Addr) (n2 c2 : Nat) (oid : Int) (ow : ByteArray) (tick til cls : Int) (A3 : Option Addr) (n3 c3 : Nat) (ls : List Lab) (b off : Nat), l[k]? = some ⟨kind, s, .slice A2 n2 c2, oid, ow, tick, til, cls, .slice A3 n3 c3, ls⟩ ∧ A = some ⟨b, off, none⟩ ∧ b < w.heap.size ∧
      w.rangeAt b (off + k * 22) [.int .i64 kind, .int .i64 s.id, .slice A2 n2 c2, .string s.ow, .string s.se, .int .i64 s.cl, .int .i64 s.fr, .int .i64 s.un, .int .i64 s.cp, .int .i64 s.hd, .int .i64 oid, .string ow, .int .i64 tick, .int .i64 til, .int .i64 cls, .int .i64 0, .string ⟨#[114]⟩, .int .i64 1, .slice A3 n3 c3, .int .i64 tick, .int .i64 0, .string ⟨#[]⟩] ∧
      Mats w base (.slice A2 n2 c2) s.ms ∧ Labs w base (.slice A3 n3 c3) ls ∧ GFit tick s ∧ (0 ≤ kind ∧ kind ≤ 3) ∧ (1 ≤ oid ∧ oid ≤ 5) ∧ (0 ≤ tick ∧ tick ≤ 100) ∧ (0 ≤ til ∧ til ≤ 2000) ∧ (0 ≤ cls ∧ cls ≤ 4) ∧ ls.length ≤ 6 ∧ ∀ x ∈ ls, GoodLab x := by
  obtain ⟨x, hx⟩ : ∃ x, l[k]? = some x := ⟨l[k], List.getElem?_eq_getElem _⟩
  obtain ⟨b, off, rfl, hb, hat, hmx, hlx, hof⟩ := h.at_ k _ hx
  obtain ⟨kind, s, mv, oid, ow, tick, til, cls, lv, ls⟩ := x
  obtain ⟨A2, c2, hmv⟩ := hmx.form
  obtain ⟨A3, c3, hlv⟩ := hlx.form
  simp only at hmv hlv
  subst hmv hlv
  exact ⟨kind, s, A2, _, c2, oid, ow, tick, til, cls, A3, _, c3, ls, b, off, hx, rfl, hb, hat, hmx, hlx, hof.1, hof.2.1, hof.2.2.1, hof.2.2.2.1, hof.2.2.2.2.1, hof.2.2.2.2.2.1, hof.2.2.2.2.2.2.1, hof.2.2.2.2.2.2.2⟩
end Go.Proofs.Ytoafpajibeejlaa
