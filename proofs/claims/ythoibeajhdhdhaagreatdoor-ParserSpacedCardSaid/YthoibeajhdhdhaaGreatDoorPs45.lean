/- Contracts, packed: Od Oe Of Og Op Oq Jh Jl. -/
import Derived.Test.YthoibeajhdhdhaaGreatDoorPs1
import Derived.Test.YthoibeajhdhdhaaGreatDoorPs12
import Derived.Test.YthoibeajhdhdhaaGreatDoorPs15
import Derived.Test.YthoibeajhdhdhaaGreatDoorPs16
import Derived.Test.YthoibeajhdhdhaaGreatDoorPs18
import Derived.Test.YthoibeajhdhdhaaGreatDoorPs23
import Derived.Test.YthoibeajhdhdhaaGreatDoorPs30
import Derived.Test.YthoibeajhdhdhaaGreatDoorPs31
import Derived.Test.YthoibeajhdhdhaaGreatDoorPs35
import Derived.Test.YthoibeajhdhdhaaGreatDoorPs36
import Derived.Test.YthoibeajhdhdhaaGreatDoorPs42
import Derived.Test.YthoibeajhdhdhaaGreatDoorPs44
import Derived.StillTailTactics
import Derived.Deep.CutBlock
import Derived.Deep.DeepCutAuto
set_option linter.unusedVariables false
set_option linter.unusedSimpArgs false
namespace Go.Proofs.YthoibeajhdhdhaaGreatDoor
section
open Go.RowKit FracM
end
section
open Go.RowKit FracM
end
section
open Go.RowKit FracM
end
section
open Go.RowKit FracM
end
section
open Go.RowKit FracM
end
section
open Go.RowKit FracM
end
section
open Go.RowKit FracM
def live1 : List UInt8 := [115, 117, 109, 32, 98, 121, 32, 40, 122, 111, 110, 101, 41, 32, 40, 114, 101, 113, 123, 99, 111, 100, 101, 94, 61, 34, 53, 34, 125, 46, 114, 97, 116, 101, 40, 54, 48, 41, 41, 32, 47, 32, 50]
def live2 : List UInt8 := [97, 46, 107, 116, 104, 40, 51, 44, 52, 41]
def liveP : List UInt8 := [115, 117, 109, 32, 98, 121, 40, 122, 111, 110, 101, 41, 40, 114, 101, 113, 123, 99, 111, 100, 101, 94, 61, 34, 53, 34, 125, 46, 114, 97, 116, 101, 40, 54, 48, 41, 41, 47, 50]
def liveT : Tree := .node ⟨3, 3, 0, 0, 0, 0, 0, ⟨#[]⟩, [], []⟩ [.node ⟨2, 0, 0, 0, 0, 0, 0, ⟨#[]⟩, [], [⟨#[122, 111, 110, 101]⟩]⟩ [.node ⟨1, 6, 60, 0, 0, 0, 0, ⟨#[114, 101, 113]⟩, [(⟨#[99, 111, 100, 101]⟩, 2, ⟨#[53]⟩)], []⟩ []], .node ⟨0, 0, 0, 0, 0, 2, 1, ⟨#[]⟩, [], []⟩ []]
theorem live_p1 : parseT live1 = (liveT, 0, 0) := by kernel_rfl
theorem live_p2 : parseT live2 = (zeroT, 8, 5) := by kernel_rfl
theorem live_pr : printT liveT = (liveP, 0) := by kernel_rfl
/-- Parse at a text whose parse is known -/
theorem parse_at (s : ByteArray) (T : Tree) (a er : Int) (w : World) (hs : s.size ≤ maxLen) (hw : WordsV w) (hp : parseT (lst s) = (T, a, er)) :
  Calls Tryz.prog 31 #[.string s] w fun e w' => ∃ mv bv kv, e = .returned (.tuple #[.agg (ndC T.d mv bv kv), .int .i64 a, .int .i64 er]) ∧ TreeAt w' (fun b _ => w.heap.size ≤ b) T (mv, bv, kv) ∧ Below w.heap.size w w' :=
 (pparse_any s w hs hw).mono fun e w' ⟨mv, bv, kv, he, hT, hb⟩ => ⟨mv, bv, kv, by rw [he, hp], by rw [hp] at hT; exact hT, hb⟩
theorem LibP.v {w : World} (h : LibP w) : WordsV w := ⟨h.grp, h.fn, h.mat, h.opr⟩
theorem print_at (T : Tree) (l : List UInt8) (er : Int) (P : Nat → Nat → Prop) (w : World) (s : Sl) (hT : TreeAt w P T s) (hl : LibP w) (hp : printT T = (l, er)) : Calls Tryz.prog 29 #[.agg (ndC T.d s.1 s.2.1 s.2.2)] w (RetB (.tuple #[.string (bsL l), .int .i64 er]) w) :=
 (pprint_any T P w s hT hl).mono fun e w' ⟨he, hb⟩ => ⟨by rw [he, hp], hb⟩
set_option maxHeartbeats 4000000 in
set_option maxRecDepth 100000 in
theorem lives_true (w : World) (hl : LibP w) : Calls Tryz.prog 16 #[] w (RetB (.bool true) w) := by
 have HL := Box.mk hl
 clear hl
 go_enter Tryz.func16, Tryz.ntmps16
 go_wp2_with fail
 refine (parse_at _ liveT 0 0 _ (by unfold maxLen; decide +kernel) HL.out.v live_p1).mono ?_
 rintro e w1 ⟨mv, bv, kv, rfl, hT, hb⟩
 have HPR : Box (printT liveT = (liveP, 0)) := ⟨live_pr⟩
 obtain ⟨T, hTe⟩ : ∃ T, liveT = T := ⟨_, rfl⟩
 rw [hTe] at hT HPR ⊢
 clear hTe
 obtain ⟨d, ks⟩ := T
 obtain ⟨A1, n1, rfl, l1⟩ := hT.nod.ms.form
 obtain ⟨A2, n2, rfl, l2⟩ := hT.nod.bys.form
 obtain ⟨A3, n3, rfl, l3⟩ := hT.nod.kform
 have HB := Box.mk hb
 have HT := Box.mk (hT.belo (bel1 w1 (.cells (ndC d (.slice A1 d.ms.length n1) (.slice A2 d.bys.length n2) (.slice A3 ks.length n3)) exT)))
 have HK : Box (Blk (w1.alloc (.cells (ndC d (.slice A1 d.ms.length n1) (.slice A2 d.bys.length n2) (.slice A3 ks.length n3)) exT)) w1.heap.size exT (ndC d (.slice A1 d.ms.length n1) (.slice A2 d.bys.length n2) (.slice A3 ks.length n3))) := ⟨Blk.new _ _ _⟩
 have HB2 : Box (Below w.heap.size w (w1.alloc (.cells (ndC d (.slice A1 d.ms.length n1) (.slice A2 d.bys.length n2) (.slice A3 ks.length n3)) exT))) := ⟨bthen hb (bel1 _ _) (Nat.le_refl _)⟩
 clear hT hb HB
 simp only [Tree.d]
 go_upto_region 2 with (fail)
 generalize w1.heap.size = g at *
 generalize w1.alloc (.cells (ndC d (.slice A1 d.ms.length n1) (.slice A2 d.bys.length n2) (.slice A3 ks.length n3)) exT) = W at *
 obtain ⟨c0, c1, c2, c3, c4, c5, c6, c7, c8, c9, c10⟩ := blk11 HK.out
 simp only [Nat.zero_add] at c1 c2 c3 c4 c5 c6 c7 c8 c9 c10
 go_wp2_with fail
 refine (print_at (.node d ks) liveP 0 _ _ (_, _, _) HT.out (HL.out.below HB2.out) HPR.out).mono ?_
 rintro e w2 ⟨rfl, hb⟩
 have HB3 : Box (Below w.heap.size w w2) := ⟨bthen HB2.out hb (Nat.le_refl _)⟩
 clear hb c0 c1 c2 c3 c4 c5 c6 c7 c8 c9 c10 HT HK HB2 HPR
 obtain ⟨z, hz⟩ : ∃ z, bsL liveP = z := ⟨_, rfl⟩
 have hz1 : (z.toList == [115, 117, 109, 32, 98, 121, 40, 122, 111, 110, 101, 41, 40, 114, 101, 113, 123, 99, 111, 100, 101, 94, 61, 34, 53, 34, 125, 46, 114, 97, 116, 101, 40, 54, 48, 41, 41, 47, 50]) = true := by rw [← hz]; decide +kernel
 rw [hz]
 clear hz
 go_wp2_with fail
 refine (parse_at _ zeroT 8 5 _ (by unfold maxLen; decide +kernel) (HL.out.below HB3.out).v live_p2).mono ?_
 rintro e w3 ⟨mv, bv, kv, rfl, hT, hb⟩
 have HB4 : Box (Below w.heap.size w w3) := ⟨bthen HB3.out hb (Nat.le_refl _)⟩
 clear hb
 obtain ⟨T, hTe⟩ : ∃ T, zeroT = T := ⟨_, rfl⟩
 rw [hTe] at hT ⊢
 clear hTe
 obtain ⟨d, ks⟩ := T
 obtain ⟨A1, n1, rfl, l1⟩ := hT.nod.ms.form
 obtain ⟨A2, n2, rfl, l2⟩ := hT.nod.bys.form
 obtain ⟨A3, n3, rfl, l3⟩ := hT.nod.kform
 clear hT
 simp only [Tree.d]
 go_upto_region 4 with (fail)
 have HB5 : Box (Below w.heap.size w (w3.alloc (.cells (ndC d (.slice A1 d.ms.length n1) (.slice A2 d.bys.length n2) (.slice A3 ks.length n3)) exT))) := ⟨bthen HB4.out (bel1 _ _) (Nat.le_refl _)⟩
 generalize w3.alloc (.cells (ndC d (.slice A1 d.ms.length n1) (.slice A2 d.bys.length n2) (.slice A3 ks.length n3)) exT) = W5 at *
 go_wp2_with fail
 go_ret
 exact ⟨rfl, HB5.out⟩
end
section
open Go.RowKit FracM
/-- a variable that holds a tree -/
structure TB (W : World) (g : Nat) (t : Tree) (s : Sl) : Prop where
 box : Blk W g 29 (ndC t.d s.1 s.2.1 s.2.2)
 tr : TreeAt W AnyP t s
theorem TB.next {W W' : World} {g : Nat} {t : Tree} {s : Sl} (h : TB W g t s) (hb : Below W.heap.size W W') : TB W' g t s := ⟨h.box.below hb, (h.tr.low.keep (Agree.of_below hb)).mono fun _ _ _ _ => trivial⟩
theorem TB.new {W : World} {t : Tree} {s : Sl} (h : TreeAt W AnyP t s) : TB (W.alloc (.cells (ndC t.d s.1 s.2.1 s.2.2) 29)) W.heap.size t s := ⟨Blk.new _ _ _, (h.low.keep (Agree.of_below (bel1 _ _))).mono fun _ _ _ _ => trivial⟩
structure T3 (w W : World) (g1 : Nat) (t1 : Tree) (s1 : Sl) (g2 : Nat) (t2 : Tree) (s2 : Sl) (g3 : Nat) (t3 : Tree) (s3 : Sl) : Prop where
 below : Below w.heap.size w W
 x1 : TB W g1 t1 s1
 x2 : TB W g2 t2 s2
 x3 : TB W g3 t3 s3
end
end Go.Proofs.YthoibeajhdhdhaaGreatDoor
