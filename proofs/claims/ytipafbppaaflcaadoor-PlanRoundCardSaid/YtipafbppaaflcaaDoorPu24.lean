/- Contracts, packed: Qm Rb Rc Sa Sj Up Sf Sg. -/
import Derived.Test.YtipafbppaaflcaaDoorPu4
import Derived.Test.YtipafbppaaflcaaDoorPu12
import Derived.Test.YtipafbppaaflcaaDoorPu13
import Derived.Test.YtipafbppaaflcaaDoorPu16
import Derived.Test.YtipafbppaaflcaaDoorPu17
import Derived.Test.YtipafbppaaflcaaDoorPu21
import Derived.Test.YtipafbppaaflcaaDoorPu22
import Derived.Test.YtipafbppaaflcaaDoorPu23
import Derived.ArgAppend
import Derived.Deep.DeepAppendRoom
set_option linter.unusedVariables false
set_option linter.unusedSimpArgs false
namespace Go.Proofs.YtipafbppaaflcaaDoor
section
open Go.RowKit FracM
end
section
open Go.RowKit FracM
end
section
open Go.RowKit FracM
theorem blk11z {W : World} {g : Nat} {t : TypeId} {d : Nd} {mv bv kv : Value} (h : Blk W g t (ndC d mv bv kv)) : W.cell? ⟨g, 0, none⟩ = some (.int .i64 d.kind) ∧ W.cell? ⟨g, 1, none⟩ = some (.int .i64 d.fn) ∧ W.cell? ⟨g, 2, none⟩ = some (.int .i64 d.win) ∧ W.cell? ⟨g, 3, none⟩ = some (.int .i64 d.off) ∧ W.cell? ⟨g, 4, none⟩ = some (.int .i64 d.k) ∧ W.cell? ⟨g, 5, none⟩ = some (.int .i64 d.num) ∧ W.cell? ⟨g, 6, none⟩ = some (.int .i64 d.den) ∧ W.cell? ⟨g, 7, none⟩ = some (.string d.name) ∧ W.cell? ⟨g, 8, none⟩ = some mv ∧ W.cell? ⟨g, 9, none⟩ = some bv ∧ W.cell? ⟨g, 10, none⟩ = some kv := by
 unfold Blk at h
 refine ⟨?_, ?_, ?_, ?_, ?_, ?_, ?_, ?_, ?_, ?_, ?_⟩ <;> simp [World.cell?, h]
end
section
open Go.RowKit FracM
theorem ndsL_drop (ks : List Tree) (k : Nat) (x : Tree) (hx : ks[k]? = some x) : ndsL (ks.drop k) = nds x + ndsL (ks.drop (k + 1)) := by
 obtain ⟨h1, h2⟩ := List.getElem?_eq_some_iff.1 hx
 rw [List.drop_eq_getElem_cons h1, h2, ndsL]
theorem nds_mem {ks : List Tree} {x : Tree} (hx : x ∈ ks) : nds x ≤ ndsL ks := by
 induction ks with
 | nil => simp at hx
 | cons t ts ih =>
  rw [ndsL]
  rcases List.mem_cons.1 hx with e | e
  ·subst e; omega
  ·have := ih e; omega
end
section
open Go.RowKit FracM
section
variable {P : Program} (w : World)
end
end
section
open Go.RowKit FracM
theorem insInfo : (Tryd.prog.info? 45).map (fun i => (i.zero, i.size, i.bytes)) = some (some (.agg #[.int .i64 0, .int .i64 0, .int .i64 0, .int .i64 0, .int .i64 0, .int .i64 0, .int .i64 0, .string ⟨#[]⟩, .slice none 0 0, .slice none 0 0]), 10, 120) := by kernel_rfl
/-- a plan in a row of its own, its instructions' rows in P -/
def PlW (w : World) (B : Nat) (P : Nat → Nat → Prop) (v : Value) (l : List Nd) : Prop :=
 ∃ cs : List Sl2, w.ownsRow B 45 10 v l.length ((l.zip cs).flatMap insL) ∧ InsRows w P l cs
theorem PlW.nil (w : World) (B : Nat) (P : Nat → Nat → Prop) : PlW w B P (.slice none 0 0) [] := ⟨[], World.ownsRow_nil _ _ _ _, InsRows.nil _ _⟩
theorem PlW.form {w : World} {B : Nat} {P : Nat → Nat → Prop} {v : Value} {l : List Nd} (h : PlW w B P v l) : ∃ A c, v = .slice A l.length c := by
 obtain ⟨cs, h1, -⟩ := h
 exact own_form h1
theorem PlW.formL {w : World} {B : Nat} {P : Nat → Nat → Prop} {v : Value} {l : List Nd} (h : PlW w B P v l) : ∃ A c, v = .slice A l.length c ∧ l.length ≤ c ∧ c ≤ maxLen := by
 obtain ⟨cs, h1, -⟩ := h
 rcases h1.2 with ⟨h2, h3⟩ | ⟨g, c, cur, hv, -, -, hn, hc, -⟩
 ·exact ⟨none, 0, by rw [h2, h3], by omega, by unfold maxLen; omega⟩
 ·exact ⟨_, c, hv, hn, hc⟩
theorem PlW.mono {w : World} {B : Nat} {P Q : Nat → Nat → Prop} {v : Value} {l : List Nd} (h : PlW w B P v l) (hq : ∀ b e, b < w.heap.size → P b e → Q b e) : PlW w B Q v l := by
 obtain ⟨cs, h1, h2⟩ := h
 exact ⟨cs, h1, h2.mono hq⟩
theorem PlW.base {w : World} {B C : Nat} {P : Nat → Nat → Prop} {v : Value} {l : List Nd} (h : PlW w B P v l) (hC : C ≤ B) : PlW w C P v l := by
 obtain ⟨cs, h1, h2⟩ := h
 refine ⟨cs, ⟨h1.1, ?_⟩, h2⟩
 rcases h1.2 with h | ⟨g, c, cur, hv, hg, rest⟩
 ·exact .inl h
 ·exact .inr ⟨g, c, cur, hv, by omega, rest⟩
theorem PlW.p {w : World} {B : Nat} {P : Nat → Nat → Prop} {v : Value} {l : List Nd} (h : PlW w B P v l) : PlanP w (fun b e => P b e ∨ B ≤ b) v l := by
 obtain ⟨cs, h1, h2⟩ := h
 exact ⟨cs, SeqP.of_own h1 fun b c hb _ => .inr hb, h2.mono fun b e _ h => .inl h⟩
theorem PlW.any {w : World} {B : Nat} {P : Nat → Nat → Prop} {v : Value} {l : List Nd} (h : PlW w B P v l) : PlanP w AnyP v l := h.p.mono fun _ _ _ _ => trivial
theorem ins_one (x : Nd × Sl2) (hm : ∃ A n c, x.2.1 = .slice A n c) (hb : ∃ A n c, x.2.2 = .slice A n c) : ∀ u ∈ insL x, u.oneCell' = true := by
 obtain ⟨A, n, c, h1⟩ := hm
 obtain ⟨A', n', c', h2⟩ := hb
 intro u hu
 simp only [insL, insC, h1, h2, List.mem_cons, List.not_mem_nil, or_false] at hu
 rcases hu with rfl | rfl | rfl | rfl | rfl | rfl | rfl | rfl | rfl | rfl <;> rfl
/-- what is behind an append of one instruction -/
theorem PlW.snoc {w w' : World} {B : Nat} {P : Nat → Nat → Prop} {v' : Value} {l : List Nd} {d : Nd} {mv bv : Value} {cs : List Sl2} (hr : InsRows w P l cs) (hd : InsAt w P d mv bv)
  (hown : w'.ownsRow B 45 10 v' (l.length + 1) ((l.zip cs).flatMap insL ++ insL (d, mv, bv))) (hf : Agree P w w') : PlW w' B P v' (l ++ [d]) := by
 refine ⟨cs ++ [(mv, bv)], ?_, (hr.snoc hd).keep hf⟩
 rw [zip_snoc _ _ _ _ hr.1, List.length_append]
 exact hown
theorem own_bk {w : World} {B t size n : Nat} {v : Value} {xs : List Value} (h : w.ownsRow B t size v n xs) : ∀ g, v.ownBlock = some g → B ≤ g ∧ g < w.heap.size := by
 intro g hg
 rcases h.2 with ⟨rfl, _⟩ | ⟨g', cap, cur, rfl, hb, hh, _⟩
 ·simp [Value.ownBlock] at hg
 ·simp [Value.ownBlock] at hg; subst hg
  exact ⟨hb, (Array.getElem?_eq_some_iff.1 hh).1⟩
end
section
open Go.RowKit FracM
end
section
open Go.RowKit FracM
end
end Go.Proofs.YtipafbppaaflcaaDoor
