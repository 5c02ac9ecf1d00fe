/- An array of integers by value, opened and shut. -/
import Derived.Test.YtinbfdfgebiaeaaDoorLa
import Derived.OpenShut
import Derived.DataShut
set_option linter.unusedVariables false
set_option linter.unusedSimpArgs false
namespace Go.Proofs.YtinbfdfgebiaeaaDoor
open Go.ChangeShapes Go.WideShapes Go.ChangeAt Go.RowKit
section
variable {H : Type} {enc : TypeId × Value → H} {P : Program} {w : World} {base : Nat} {spare : Nat → Bool} {held : Bool}
theorem open_arr {r : Reach} {b0 n : Nat} {t e : TypeId} {k : IntKind} {v : Value} {d : DataW H} {ps : List MemPlace} (ht : P.underlying t = some (.array n e)) (he : P.underlying e = some (.int k)) (hct : P.cellsOf t = n) (hce : P.cellsOf e = 1)
    (hval : Value.okWide P w r b0 t v) (hd : DataW.Trod enc P w base spare held t v d ps) :
    ∃ zs : List Int, zs.length = n ∧ v = .agg (zs.map fun z => Value.int k z).toArray ∧ d = .agg (zs.map fun z => .lit (.int k z)) ∧ ps = [] ∧ ∀ z ∈ zs, (Lit.int k z).wf = true := by
  unfold Value.okWide at hval
  rw [ht] at hval
  obtain ⟨cs, rfl, hsz, -⟩ := hval
  obtain ⟨fuel, hf⟩ := hd
  obtain ⟨xs, m, rfl, hx, hlen, hxl, hi⟩ := DataW.trod_array ht hf
  simp only [Value.cells, hce, hct, Nat.mul_one] at hlen hi hsz hx
  simp only [Prod.mk.injEq] at hx
  obtain ⟨rfl, rfl⟩ := hx
  have key : ∀ (l : List Value) (ys : List (DataW H × List MemPlace)), l.length = ys.length → (∀ i, i < l.length → DataW.trod enc P w base spare held m e ((l.drop i).take 1) = ys[i]?) →
      ∃ zs : List Int, zs.length = l.length ∧ l = zs.map (fun z => Value.int k z) ∧ ys.map (·.1) = zs.map (fun z => .lit (.int k z)) ∧ ys.flatMap (·.2) = [] ∧ ∀ z ∈ zs, (Lit.int k z).wf = true := by
    intro l
    induction l with
    | nil => intro ys hl _; cases ys with
      | nil => exact ⟨[], rfl, rfl, rfl, rfl, by simp⟩
      | cons y ys => simp at hl
    | cons c l ih => intro ys hl h; cases ys with
      | nil => simp at hl
      | cons y ys =>
        have h0 := h 0 (by simp)
        simp at h0
        obtain ⟨z, hc, hy, hw⟩ := DataW.trod_int he h0
        simp at hc
        obtain ⟨zs, k1, k2, k3, k4, k5⟩ := ih ys (by simpa using hl) (fun i hi => by simpa using h (i + 1) (by simpa using hi))
        refine ⟨z :: zs, by simp [k1], by simp [hc, k2], by simp [hy, k3], by simp [hy, k4], ?_⟩
        intro z' hz'
        rcases List.mem_cons.1 hz' with rfl | hz'
        · exact hw
        · exact k5 z' hz'
  obtain ⟨zs, k1, k2, k3, k4, k5⟩ := key cs.toList xs (by rw [hlen, hxl]) (fun i h => hi i (by omega))
  exact ⟨zs, by rw [k1, hlen], by rw [← k2], by rw [k3], k4, k5⟩

theorem shut_arr {n : Nat} {t e : TypeId} {k : IntKind} {zs : List Int} (ht : P.underlying t = some (.array n e)) (he : P.underlying e = some (.int k)) (hct : P.cellsOf t = n) (hce : P.cellsOf e = 1) (hl : zs.length = n)
    (hw : ∀ z ∈ zs, (Lit.int k z).wf = true) : DataW.Trod enc P w base spare held t (.agg (zs.map fun z => Value.int k z).toArray) (.agg (zs.map fun z => .lit (.int k z))) [] := by
  refine ⟨2, ?_⟩
  unfold DataW.trod
  rw [ht]
  simp only [Value.cells, hce, hct, Nat.mul_one, List.length_map, hl, if_true]
  have : ((List.range n).mapM fun i => DataW.trod enc P w base spare held 1 e (((zs.map fun z => Value.int k z).drop i).take 1)) = some (zs.map fun z => (DataW.lit (.int k z), ([] : List MemPlace))) := by
    refine mapM_some_of_get _ _ (by simp [hl]) (fun i x hx => ?_)
    obtain ⟨hi, rfl⟩ : i < n ∧ i = x := by
      obtain ⟨h1, h2⟩ := List.getElem?_eq_some_iff.1 hx
      simp at h1 h2
      exact ⟨h1, h2⟩
    have hz : i < zs.length := by omega
    have hg : ((zs.map fun z => Value.int k z).drop i).take 1 = [Value.int k zs[i]] := by
      rw [List.drop_eq_getElem_cons (by simpa using hz)]; simp
    rw [hg]
    simp [DataW.trod, he, hw zs[i] (List.getElem_mem hz), hz]
  simp [this]
theorem list4 {α : Type} {l : List α} (h : l.length = 4) : ∃ z0 z1 z2 z3, l = [z0, z1, z2, z3] := by
  match l, h with
  | [z0, z1, z2, z3], _ => exact ⟨z0, z1, z2, z3, rfl⟩
theorem open_arr4 {r : Reach} {b0 : Nat} {t e : TypeId} {k : IntKind} {v : Value} {d : DataW H} {ps : List MemPlace} (ht : P.underlying t = some (.array 4 e)) (he : P.underlying e = some (.int k)) (hct : P.cellsOf t = 4) (hce : P.cellsOf e = 1)
    (hval : Value.okWide P w r b0 t v) (hd : DataW.Trod enc P w base spare held t v d ps) : ∃ z0 z1 z2 z3 : Int, v = .agg #[.int k z0, .int k z1, .int k z2, .int k z3] ∧ d = .agg [.lit (.int k z0), .lit (.int k z1), .lit (.int k z2), .lit (.int k z3)] ∧ ps = [] ∧ (Lit.int k z0).wf = true ∧ (Lit.int k z1).wf = true ∧ (Lit.int k z2).wf = true ∧ (Lit.int k z3).wf = true := by
  obtain ⟨zs, hl, rfl, rfl, rfl, hw⟩ := open_arr ht he hct hce hval hd
  obtain ⟨z0, z1, z2, z3, rfl⟩ := list4 hl
  exact ⟨z0, z1, z2, z3, rfl, rfl, rfl, hw z0 (by simp), hw z1 (by simp), hw z2 (by simp), hw z3 (by simp)⟩
theorem shut_arr4 {t e : TypeId} {k : IntKind} {z0 z1 z2 z3 : Int} (ht : P.underlying t = some (.array 4 e)) (he : P.underlying e = some (.int k)) (hct : P.cellsOf t = 4) (hce : P.cellsOf e = 1) (w0 : (Lit.int k z0).wf = true) (w1 : (Lit.int k z1).wf = true) (w2 : (Lit.int k z2).wf = true) (w3 : (Lit.int k z3).wf = true) :
    DataW.Trod enc P w base spare held t (.agg #[.int k z0, .int k z1, .int k z2, .int k z3]) (.agg [.lit (.int k z0), .lit (.int k z1), .lit (.int k z2), .lit (.int k z3)]) [] := shut_arr (zs := [z0, z1, z2, z3]) ht he hct hce rfl (by intro z hz; simp only [List.mem_cons, List.not_mem_nil, or_false] at hz; rcases hz with rfl | rfl | rfl | rfl <;> assumption)
end
end Go.Proofs.YtinbfdfgebiaeaaDoor
