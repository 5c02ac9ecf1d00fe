/- Text of the reference. -/
import Derived.Test.YtinbfdfgebiaeaaDoorTa
import Derived.Test.YtinbfdfgebiaeaaDoorNe
import Derived.Deep.RegionHeld3
import Derived.Deep.DeepCutAuto
set_option linter.unusedVariables false
set_option linter.unusedSimpArgs false
namespace Go.Proofs.YtinbfdfgebiaeaaDoor
open Go.RowKit FracM

theorem ba_assoc (a b c : ByteArray) : a ++ b ++ c = a ++ (b ++ c) := by apply ByteArray.ext; simp [Array.append_assoc]
structure B1 (w W : World) (n d : Int) : Prop where
  below : Below w.heap.size w W
  blk : Blk W w.heap.size 24 #[.int .i64 n, .int .i64 d]
theorem B1.next {w W W' : World} {n d : Int} (h : B1 w W n d) (hb : Below W.heap.size W W') : B1 w W' n d := ⟨bthen h.below hb (Nat.le_refl _), h.blk.below hb⟩
theorem B1.start (w : World) (n d : Int) : B1 w (w.alloc (.cells #[.int .i64 n, .int .i64 d] 24)) n d := ⟨bel1 _ _, Blk.new _ _ _⟩
end Go.Proofs.YtinbfdfgebiaeaaDoor
