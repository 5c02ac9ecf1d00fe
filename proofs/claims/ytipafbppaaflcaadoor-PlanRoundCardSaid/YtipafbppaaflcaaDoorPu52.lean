/- Contracts, packed: Bi. -/
import Derived.Test.YtipafbppaaflcaaDoorPu47
import Derived.Test.YtipafbppaaflcaaDoorPu51
set_option linter.unusedVariables false
set_option linter.unusedSimpArgs false
namespace Go.Proofs.YtipafbppaaflcaaDoor
section
open Go.RowKit FracM
theorem planP_ok {w : World} {P : Nat → Nat → Prop} {v : Value} {l : List Nd} (h : PlanP w P v l) : ∀ d ∈ l, NdOk d := by
 obtain ⟨cs, -, h2⟩ := h.rows
 intro d hd
 obtain ⟨i, hi⟩ := List.mem_iff_getElem?.1 hd
 obtain ⟨s, hs⟩ : ∃ s, cs[i]? = some s := ⟨cs[i]'(by rw [h2.1]; exact (List.getElem?_eq_some_iff.1 hi).1), List.getElem?_eq_getElem _⟩
 exact (h2.2 i d s hi hs).ok
theorem good_of {d : Nd} (h1 : NdOk d) (h2 : SizD d) : GoodNd d := by
 obtain ⟨a0, a1, a2, a3, a4, a5, a6⟩ := h1.ints
 have hn := h2.name
 refine ⟨⟨a0, a1, a2, a3, a4, a5, a6, ?_⟩, fun m hm => ?_, fun s hs => ?_⟩
 ·show d.name.size < _; omega
 ·obtain ⟨b1, b2, b3⟩ := h2.ms m hm
  exact ⟨by show m.1.size < _; omega, b3, by show m.2.2.size < _; omega⟩
 ·have := h2.bys s hs
  show s.size < _; omega
theorem plan_good {p : List Nd} (h : (treeM p).2 = 0) (hok : ∀ d ∈ p, NdOk d) : ∀ d ∈ p, GoodNd d := fun d hd => good_of (hok d hd) (plan_sizes h d hd)
/-- the encodings of two valid trees' plans are equal if and only if the trees are -/
theorem enc_trees {t u : Tree} (ht : validE t = 0) (hu : validE u = 0) (h1 : ∀ d ∈ postT t, NdOk d) (h2 : ∀ d ∈ postT u, NdOk d) : decide (encPl (postT t) = encPl (postT u)) = eqT t u := by
 have e1 : (treeM (postT t)).2 = 0 := by rw [tree_post ht]
 have e2 : (treeM (postT u)).2 = 0 := by rw [tree_post hu]
 rw [Bool.eq_iff_iff, decide_eq_true_iff, eqT_iff, enc_inj e1 e2 (plan_good e1 h1) (plan_good e2 h2), post_inj ht hu]
end
end Go.Proofs.YtipafbppaaflcaaDoor
