/- Done, Read and octet of package wire. -/
import Derived.Test.YtinbfdfgebiaeaaDoorHd
set_option linter.unusedVariables false
set_option linter.unusedSimpArgs false
namespace Go.Proofs.YtinbfdfgebiaeaaDoor
open Go.RowKit

theorem FW.mono {g B B' : Nat} {w W : World} (h : FW g B w W) (hB : B' ≤ B) : FW g B' w W := ⟨h.os, h.tape, h.output, h.size, fun k hk hn => h.block k (by omega) hn⟩
theorem FW.then_ {g : Nat} {w w1 w2 : World} (h : FW g w.heap.size w w1) (k : FW g w1.heap.size w1 w2) : FW g w.heap.size w w2 := h.trans (k.mono h.size)
theorem FW.below {g : Nat} {w W : World} (h : FW g w.heap.size w W) {B : Nat} (hB : B ≤ g) (hw : B ≤ w.heap.size) : Below B w W := ⟨h.os, h.tape, h.output, h.size, fun k hk => h.block k (by omega) (by omega)⟩
set_option maxHeartbeats 400000 in
theorem done_any (g B : Nat) (l : List Nat) (v : Value) (w : World) (h : WS g B w w v l) (h0 : 0 < l.length) (hl : l.length ≤ 2000) :
    Calls Tryd.prog 9 #[.pointer (some ⟨g, 0, none⟩)] w (RetSq l w) := by
  obtain ⟨b, c, rfl, -, hs⟩ := SqB.of_own h.own h0
  have g0 := h.G.c1
  have HS := Box.mk hs
  clear h hs
  go_enter Tryd.func9, Tryd.ntmps9
  go_wp2_with fail
  refine (bclone_any b 0 l.length c l _ rfl h0 HS.out hl).mono ?_
  rintro e w1 ⟨b', off', c', rfl, hb, hs, hbel⟩
  go_wp2_with fail
  go_ret
  exact ⟨b', off', c', rfl, hb, hs, hbel⟩
/-- a reader at h, at the offset p -/
structure RD (h b off c : Nat) (l : List Nat) (W : World) (p : Nat) : Prop where
  blk : Blk W h 54 #[.slice (some ⟨b, off, none⟩) l.length c, .int .i64 (p : Int), .int .i64 0]
  sq : SqB W b off l
  ne : b ≠ h
theorem RD.fw {h b off c : Nat} {l : List Nat} {W W' : World} {p p' : Nat} (r : RD h b off c l W p) (f : FW h W.heap.size W W') (hb : Blk W' h 54 #[.slice (some ⟨b, off, none⟩) l.length c, .int .i64 (p' : Int), .int .i64 0]) : RD h b off c l W' p' :=
  ⟨hb, r.sq.keep f.size (f.block b r.sq.lt r.ne), r.ne⟩
theorem RD.below {h b off c : Nat} {l : List Nat} {W W' : World} {p : Nat} (r : RD h b off c l W p) (f : Below W.heap.size W W') : RD h b off c l W' p := ⟨r.blk.below f, r.sq.below f, r.ne⟩
def RetRd (l : List Nat) (w : World) (e : Ending) (w' : World) : Prop := ∃ h b off c, e = .returned (.pointer (some ⟨h, 0, none⟩)) ∧ w.heap.size ≤ h ∧ RD h b off c l w' 0 ∧ Below w.heap.size w w'
set_option maxHeartbeats 400000 in
theorem read_any (b off c : Nat) (l : List Nat) (w : World) (h : SqB w b off l) (h0 : 0 < l.length) (hl : l.length ≤ 2000) :
    Calls Tryd.prog 8 #[.slice (some ⟨b, off, none⟩) l.length c] w (RetRd l w) := by
  have HS := Box.mk h
  clear h
  go_enter Tryd.func8, Tryd.ntmps8
  go_wp2_with fail
  refine (bclone_any b off l.length c l _ rfl h0 HS.out hl).mono ?_
  rintro e w1 ⟨b', off', c', rfl, hb, hs, hbel⟩
  have HB := Box.mk hbel
  have HQ := Box.mk hs
  have hlt := hs.lt
  clear hs hbel
  go_wp2_with fail
  go_ret
  have hz := HB.out.size
  exact ⟨_, b', off', c', rfl, hz, ⟨Blk.new _ _ _, HQ.out.below (bel1 _ _), by omega⟩, bthen HB.out (bel1 _ _) (Nat.le_refl _)⟩
set_option maxHeartbeats 1000000 in
theorem octet_any (h b off c p x : Nat) (l : List Nat) (w : World) (r : RD h b off c l w p) (hx : l[p]? = some x) (hl : l.length ≤ 2000) :
    Calls Tryd.prog 38 #[.pointer (some ⟨h, 0, none⟩)] w fun e w' => e = .returned (.int .u8 (x : Int)) ∧ RD h b off c l w' (p + 1) ∧ FW h w.heap.size w w' := by
  have hp : p < l.length := (List.getElem?_eq_some_iff.1 hx).1
  have hp2 : ¬ (l.length : Int) ≤ (p : Int) := by omega
  have HR := Box.mk r
  obtain ⟨r0, r1, r2⟩ := r.blk.c3
  have rf := r.blk.frozen
  have hxc := r.sq.at_ p x hx
  have hne := r.ne
  have hne2 := Ne.symm r.ne
  have HX := Box.mk hx
  clear r hx
  go_enter Tryd.func38, Tryd.ntmps38
  go_upto_region 3 with (fail)
  go_region
  all_goals
    go_upto_region 7 with (fail)
    have HF7 : Box (FW h w.heap.size w (w.setCell ⟨h, 1, none⟩ (.int .i64 ((p : Int) + 1))).drew) := ⟨⟨rfl, rfl, rfl, (FW.set h w.heap.size 1 w (.int .i64 ((p : Int) + 1))).size, (FW.set h w.heap.size 1 w (.int .i64 ((p : Int) + 1))).block⟩⟩
    have HB7 : Box (Blk (w.setCell ⟨h, 1, none⟩ (.int .i64 ((p : Int) + 1))).drew h 54 #[.slice (some ⟨b, off, none⟩) l.length c, .int .i64 ((p : Int) + 1), .int .i64 0]) := ⟨by
      have h7 : Blk (w.setCell ⟨h, 1, none⟩ (.int .i64 ((p : Int) + 1))) h 54 #[.slice (some ⟨b, off, none⟩) l.length c, .int .i64 ((p : Int) + 1), .int .i64 0] := by
        have := HR.out.blk.set 1 (.int .i64 ((p : Int) + 1))
        simpa using this
      exact h7.drewN 1⟩
    have HR7 : Box (RD h b off c l (w.setCell ⟨h, 1, none⟩ (.int .i64 ((p : Int) + 1))).drew (p + 1)) := ⟨HR.out.fw HF7.out (by rw [show (((p + 1 : Nat)) : Int) = (p : Int) + 1 by omega]; exact HB7.out)⟩
    clear r0 r1 r2 rf hxc HR
    generalize (w.setCell ⟨h, 1, none⟩ (.int .i64 ((p : Int) + 1))).drew = W7 at *
    obtain ⟨r0, r1, r2⟩ := HB7.out.c3
    have hxc := HR7.out.sq.at_ p x HX.out
    have hp3 : (p : Int) < (l.length : Int) := by omega
    go_region
    all_goals
      go_wp2_with fail
      go_ret
      exact ⟨rfl, by first | exact HR7.out | exact HR7.out.below (below_drewN _ _), by first | exact HF7.out | exact HF7.out.then_ (FW.of_below (below_drewN _ _))⟩
end Go.Proofs.YtinbfdfgebiaeaaDoor
