/- The generator of expressions: next. -/
import Derived.Test.YtgomgoacponbkaaDoorQb
import Derived.Test.YtgomgoacponbkaaDoorQt
set_option linter.unusedVariables false
set_option linter.unusedSimpArgs false
namespace Go.Proofs.YtgomgoacponbkaaDoor
open Go.RowKit FracM

def NotB (g : Nat) : Nat → Nat → Prop := fun b _ => b < g
/-- the generator in block g: its numbers, the index of the next one, its names, its greatest window -/
structure GenAt (w : World) (g : Nat) (i : Int) (lv nv : Value) (l : List Int) (ns : List ByteArray) (most : Int) : Prop where
  blk : Blk w g 81 #[lv, .int .i64 i, nv, .int .i64 most]
  ints : SeqP w (NotB g) 1 lv l.length (l.map (Value.int .i64))
  fit : ∀ x ∈ l, I64 x
  strs : SeqP w (NotB g) 1 nv ns.length (ns.map Value.string)
theorem GenAt.only {w w' : World} {g : Nat} {i i' : Int} {lv nv : Value} {l : List Int} {ns : List ByteArray} {most : Int} (h : GenAt w g i lv nv l ns most) (f : Only g w w') (hb : Blk w' g 81 #[lv, .int .i64 i', nv, .int .i64 most]) : GenAt w' g i' lv nv l ns most :=
  ⟨hb, h.ints.keep (Agree.of_only f fun _ _ h => Nat.ne_of_lt h), h.fit, h.strs.keep (Agree.of_only f fun _ _ h => Nat.ne_of_lt h)⟩
theorem GenAt.below {w w' : World} {g : Nat} {i : Int} {lv nv : Value} {l : List Int} {ns : List ByteArray} {most : Int} (h : GenAt w g i lv nv l ns most) (f : Below w.heap.size w w') : GenAt w' g i lv nv l ns most :=
  h.only (Only.of_below f) (h.blk.below f)
/-- only blocks above g turn -/
theorem GenAt.above {w w' : World} {g : Nat} {i : Int} {lv nv : Value} {l : List Int} {ns : List ByteArray} {most : Int} (h : GenAt w g i lv nv l ns most) (f : Below (g + 1) w w') : GenAt w' g i lv nv l ns most :=
  ⟨(f.block g (Nat.lt_succ_self g)).trans h.blk, h.ints.keep (Agree.of_lt f fun _ _ h => Nat.lt_succ_of_lt h), h.fit, h.strs.keep (Agree.of_lt f fun _ _ h => Nat.lt_succ_of_lt h)⟩
theorem GenAt.drew {w : World} {g : Nat} {i : Int} {lv nv : Value} {l : List Int} {ns : List ByteArray} {most : Int} (h : GenAt w g i lv nv l ns most) : GenAt w.drew g i lv nv l ns most := h.below (below_drewN w 1)
theorem GenAt.allocd {w : World} {g : Nat} {i : Int} {lv nv : Value} {l : List Int} {ns : List ByteArray} {most : Int} (h : GenAt w g i lv nv l ns most) (o : Obj) : GenAt (w.alloc o).drew g i lv nv l ns most := (h.below (bel1 w o)).drew
theorem GenAt.alloc {w : World} {g : Nat} {i : Int} {lv nv : Value} {l : List Int} {ns : List ByteArray} {most : Int} (h : GenAt w g i lv nv l ns most) (o : Obj) : GenAt (w.alloc o) g i lv nv l ns most := h.below (bel1 w o)
theorem GenAt.c {w : World} {g : Nat} {i : Int} {lv nv : Value} {l : List Int} {ns : List ByteArray} {most : Int} (h : GenAt w g i lv nv l ns most) : w.cell? ⟨g, 0, none⟩ = some lv ∧ w.cell? ⟨g, 1, none⟩ = some (.int .i64 i) ∧ w.cell? ⟨g, 2, none⟩ = some nv ∧ w.cell? ⟨g, 3, none⟩ = some (.int .i64 most) := by
  have hb := h.blk
  unfold Blk at hb; simp [World.cell?, hb]
structure OnlyS (g : Nat) (w w' : World) : Prop where
  only : Only g w w'
  size : w'.heap.size = w.heap.size
theorem OnlyS.trans {g : Nat} {a b c : World} (h : OnlyS g a b) (k : OnlyS g b c) : OnlyS g a c := ⟨h.only.trans k.only, k.size.trans h.size⟩
def RetN (g : Nat) (lv nv : Value) (l : List Int) (ns : List ByteArray) (most i m : Int) (w : World) (e : Ending) (w' : World) : Prop :=
  e = .returned (.int .i64 (pickZ l i m)) ∧ GenAt w' g (i + 1) lv nv l ns most ∧ OnlyS g w w'
theorem pick_same (A : Option Addr) (n c base : Nat) (l : List Int) (i most : Int) (w : World) (h : Ints w base (.slice A n c) l) (h1 : 1 ≤ most) (h2 : most ≤ 9223372036854775807) :
    Calls Tryd.prog 31 #[.slice A n c, .int .i64 i, .int .i64 most] w fun e w' => e = .returned (.int .i64 (pickZ l i most)) ∧ w' = w := (pick_any A n c base l i most w h h1 h2).mono fun _ _ ⟨a, b⟩ => ⟨a, b.symm⟩
set_option maxHeartbeats 1000000 in
theorem next_any (g : Nat) (lv nv : Value) (l : List Int) (ns : List ByteArray) (most i m : Int) (w : World) (h : GenAt w g i lv nv l ns most) (hi : 0 ≤ i) (hi2 : i ≤ 1000000) (h1 : 1 ≤ m) (h2 : m ≤ 9223372036854775807) :
    Calls Tryd.prog 58 #[.pointer (some ⟨g, 0, none⟩), .int .i64 m] w (RetN g lv nv l ns most i m w) := by
  obtain ⟨c0, c1, c2, c3⟩ := h.c
  have cf := h.blk.frozen
  have HG := Box.mk h
  have hs : OnlyS g w (w.setCell ⟨g, 1, none⟩ (.int .i64 (i + 1))) := ⟨Only.setCell 1 _, by simp [World.setCell]⟩
  have hb : Blk (w.setCell ⟨g, 1, none⟩ (.int .i64 (i + 1))) g 81 #[lv, .int .i64 (i + 1), nv, .int .i64 most] := by simpa using h.blk.set 1 (.int .i64 (i + 1))
  have HG2 := Box.mk (h.only hs.only hb)
  obtain ⟨A, c, hlv, -⟩ := HG2.out.ints.form
  have HI : Box (Ints (w.setCell ⟨g, 1, none⟩ (.int .i64 (i + 1))) (w.setCell ⟨g, 1, none⟩ (.int .i64 (i + 1))).heap.size (.slice A l.length c) l) := ⟨by
    have := HG2.out.ints; rw [hlv] at this; exact ⟨this.seq, HG2.out.fit⟩⟩
  have HS := Box.mk hs
  clear h hs hb
  subst hlv
  go_enter Tryd.func58, Tryd.ntmps58
  go_upto_region 2 with (fail)
  obtain ⟨d0, d1, d2, d3⟩ := HG2.out.c
  generalize w.setCell ⟨g, 1, none⟩ (.int .i64 (i + 1)) = W at *
  clear c0 c1 c2 c3
  have t1 : IntKind.i64.wrap (i + 1 - 1) = i := by rw [show i + 1 - 1 = i by omega]; exact W64_in (by omega) (by omega)
  go_quiet ((go_at_call 31; exact Calls.quiet_of_same (pick_same _ _ _ _ l _ _ _ HI.out h1 h2)))
  go_wp2
  go_ret
  exact ⟨rfl, HG2.out.below (below_drewN _ _), ⟨HS.out.only.trans (Only.of_below (below_drewN _ _)), HS.out.size⟩⟩
end Go.Proofs.YtgomgoacponbkaaDoor
