/- The walks of the laws over operations, without premise. -/
import Derived.Test.YtoafpajibeejlaaGen5
import Derived.Test.YtoafpajibeejlaaCap
import Derived.Test.YtoafpajibeejlaaLeast
namespace Go.Proofs.Ytoafpajibeejlaa
open Go.RowKit
theorem cap_true (A : Option Addr) (n c : Nat) (l : List Int) (w : World) (h : Ints w w.heap.size (.slice A n c) l) :
    Calls Try.prog 7 #[.slice A n c] w fun e w' => e = .returned (.bool true) ∧ Below w.heap.size w w' :=
  cap_walk (fun A n c base l w h1 h2 => ops_any A n c base l w h1 h2) A n c l w h
theorem least_true (A : Option Addr) (n c : Nat) (l : List Int) (w : World) (h : Ints w w.heap.size (.slice A n c) l) :
    Calls Try.prog 8 #[.slice A n c] w fun e w' => e = .returned (.bool true) ∧ Below w.heap.size w w' :=
  least_walk (fun A n c base l w h1 h2 => ops_any A n c base l w h1 h2) A n c l w h
end Go.Proofs.Ytoafpajibeejlaa
