/- SilenceCopy: lemmas on what is kept. -/
import Derived.Test.YtoafpajibeejlaaScrD
import Derived.Test.YtoafpajibeejlaaCopy
import Derived.Test.YtoafpajibeejlaaFoot
set_option linter.unusedVariables false
set_option linter.unusedSimpArgs false
namespace Go.Proofs.Ytoafpajibeejlaa
open Go.RowKit

/-- operations one after the other, on plain data -/
def runM (sl : List Sil) (l : List OpR) : List Sil := l.foldl (fun s o => opM s o.kind o.s o.oid o.ow o.tick o.til o.cls o.ls) sl
theorem runM_next {lo : List OpR} {i : Nat} {o : OpR} (h : lo[i]? = some o) : runM [] (lo.take (i + 1)) = opM (runM [] (lo.take i)) o.kind o.s o.oid o.ow o.tick o.til o.cls o.ls := by
  obtain ⟨hlt, e⟩ := List.getElem?_eq_some_iff.1 h
  unfold runM
  rw [List.take_succ_eq_append_getElem hlt, List.foldl_append, e]
  rfl
/-- a row is there if its block is -/
theorem own_kept {w w' : World} {B t size n : Nat} {v : Value} {xs : List Value} (h : w.ownsRow B t size v n xs) (hk : ∀ g, v.ownBlock = some g → w'.heap[g]? = w.heap[g]?) : w'.ownsRow B t size v n xs := by
  refine ⟨h.1, ?_⟩
  rcases h.2 with h2 | ⟨g, cap, cur, hv, hb, hh, r⟩
  · exact .inl h2
  · exact .inr ⟨g, cap, cur, hv, hb, (hk g (by rw [hv]; rfl)).trans hh, r⟩
/-- a book is there if its two blocks are -/
theorem BookAt.kept {w w' : World} {base p : Nat} {T : List TypeId} {l : List (Sil × Value)} (h : BookAt w base p l) (hk : ∀ k, F.Foot w p k → w'.heap[k]? = w.heap[k]?) (f : Fr base T w w') (hT : 27 ∉ T) : BookAt w' base p l := by
  obtain ⟨hb, sv, hh, hown, hok⟩ := h
  have e := F.rowOf_blk (t := 77) hh
  exact ⟨hb, sv, (hk p (.inl rfl)).trans hh, own_kept hown (fun g hg => hk g (.inr (e.trans hg))), hok.keep f hT⟩
theorem BookAt.row_lt {w : World} {base p g : Nat} {l : List (Sil × Value)} (h : BookAt w base p l) (hg : F.rowOf w p = some g) : base ≤ g ∧ TyAt w g 82 := by
  obtain ⟨hb, sv, hh, hown, hok⟩ := h
  rw [F.rowOf_blk (t := 77) hh] at hg
  exact own_ty hown g hg
/-- the reference's book gets another list -/
theorem rbook_put {w : World} {base q : Nat} {bv v : Value} {l : List (Sil × Value)} (hq : base ≤ q) (hb : Blk w q 60 #[bv]) (hown : w.ownsRow base 24 9 v l.length (rowCells l)) (hok : SilsOk w base l) :
    RBookAt (w.setCell ⟨q, 0, none⟩ v) base q l ∧ Fr base TT w (w.setCell ⟨q, 0, none⟩ v) ∧ F.rowOf (w.setCell ⟨q, 0, none⟩ v) q = v.ownBlock ∧ ∀ k, k ≠ q → (w.setCell ⟨q, 0, none⟩ v).heap[k]? = w.heap[k]? := by
  have f : Fr base [60] w (w.setCell ⟨q, 0, none⟩ v) := Fr.setAt (Fr.refl _ _ _) hb.ty (by decide) hq 0 _
  have b1 : Blk (w.setCell ⟨q, 0, none⟩ v) q 60 #[v] := hb.set 0 v
  exact ⟨⟨hq, v, b1, own_fr hown f (by decide), hok.keep f (by decide)⟩, f.more (by simp [TT]), F.rowOf_blk b1, fun k hk => Below.heap_setCell w ⟨q, 0, none⟩ v k hk⟩
end Go.Proofs.Ytoafpajibeejlaa
