/- A fraction by value, opened and shut. -/
import Derived.Test.YtlplligfnbkofaaDoorLa
import Derived.OpenShut
import Derived.DataShut
import Derived.Lib.SmallJoins
set_option linter.unusedVariables false
set_option linter.unusedSimpArgs false
namespace Go.Proofs.YtlplligfnbkofaaDoor
open Go.ChangeShapes Go.WideShapes Go.ChangeAt Go.RowKit
section
variable {H : Type} {enc : TypeId × Value → H} {w : World} {base : Nat} {spare : Nat → Bool} {held : Bool}
set_option maxRecDepth 100000 in
theorem open_fr {r : Reach} {b0 : Nat} {v : Value} {d : DataW H} {ps : List MemPlace} (hval : Value.okWide Tryd.prog w r b0 23 v) (hd : DataW.Trod enc Tryd.prog w base spare held 23 v d ps) :
    ∃ z0 z1 : Int, v = .agg #[.int .i64 z0, .int .i64 z1] ∧ d = .agg [.lit (.int .i64 z0), .lit (.int .i64 z1)] ∧ ps = [] ∧ (Lit.int .i64 z0).wf = true ∧ (Lit.int .i64 z1).wf = true := by
  obtain ⟨v0, v1, y0, y1, n, rfl, rfl, rfl, h0, h1⟩ := Joins.open_agg2 Tryd.underlying23 (by kernel_rfl) (by kernel_rfl) hval hd
  obtain ⟨z0, hc0, hy0, hw0⟩ := DataW.trod_int Tryd.underlying3 h0
  obtain ⟨z1, hc1, hy1, hw1⟩ := DataW.trod_int Tryd.underlying3 h1
  simp at hc0 hc1
  exact ⟨z0, z1, by rw [hc0, hc1], by rw [hy0, hy1], by rw [hy0, hy1]; rfl, hw0, hw1⟩
set_option maxRecDepth 100000 in
theorem shut_fr {z0 z1 : Int} (w0 : (Lit.int .i64 z0).wf = true) (w1 : (Lit.int .i64 z1).wf = true) : DataW.Trod enc Tryd.prog w base spare held 23 (.agg #[.int .i64 z0, .int .i64 z1]) (.agg [.lit (.int .i64 z0), .lit (.int .i64 z1)]) [] :=
  Joins.shut_agg2 (y0 := (.lit (.int .i64 z0), [])) (y1 := (.lit (.int .i64 z1), [])) Tryd.underlying23 (by kernel_rfl) (by kernel_rfl) ⟨1, trod_int_mk 0 Tryd.underlying3 w0⟩ ⟨1, trod_int_mk 0 Tryd.underlying3 w1⟩
end
end Go.Proofs.YtlplligfnbkofaaDoor
