/- The writer of package wire: Uint, Int. -/
import Derived.Test.YtinbfdfgebiaeaaDoorHa
import Derived.OwnWalk
import Derived.Laws.OwnMore
import Derived.Deep.AppendLies
import Derived.Deep.CutBlock
import Derived.Deep.RegionWith
import Derived.Deep.DeepCutAuto
set_option linter.unusedVariables false
set_option linter.unusedSimpArgs false
namespace Go.Proofs.YtinbfdfgebiaeaaDoor
open Go.RowKit

theorem own_form {w : World} {B t size n : Nat} {v : Value} {xs : List Value} (h : w.ownsRow B t size v n xs) : ∃ A c, v = .slice A n c := by
  rcases h.2 with ⟨rfl, rfl⟩ | ⟨g, cap, cur, rfl, _⟩
  · exact ⟨_, _, rfl⟩
  · exact ⟨_, _, rfl⟩
theorem own_below {w w' : World} {B t size n : Nat} {v : Value} {xs : List Value} (h : w.ownsRow B t size v n xs) (hb : Below w.heap.size w w') : w'.ownsRow B t size v n xs :=
  h.kept (row := none) ⟨hb.os, hb.tape, hb.output, hb.size, fun i hi _ => hb.block i hi⟩ (by cases hv : v.ownBlock <;> simp)
theorem grow_lt {w w' : World} {B t size n : Nat} {v : Value} {xs : List Value} (h : w.ownsRow B t size v n xs) (hg : w.grownBy w' v.ownBlock) (hB : B ≤ w.heap.size) : Below B w w' :=
  (Below.refl B w).grown hg hB (fun g hk => by
    rcases h.2 with ⟨rfl, _⟩ | ⟨g', cap, cur, rfl, hb, _⟩
    · simp [Value.ownBlock] at hk
    · simp [Value.ownBlock] at hk; omega)
/-- the frame of a writer at g: below B nothing but g turns -/
structure FW (g B : Nat) (w W : World) : Prop where
  os : W.os = w.os
  tape : W.tape = w.tape
  output : W.output = w.output
  size : w.heap.size ≤ W.heap.size
  block : ∀ k, k < B → k ≠ g → W.heap[k]? = w.heap[k]?
theorem FW.refl (g B : Nat) (w : World) : FW g B w w := ⟨rfl, rfl, rfl, Nat.le_refl _, fun _ _ _ => rfl⟩
theorem FW.trans {g B : Nat} {w w1 w2 : World} (h : FW g B w w1) (k : FW g B w1 w2) : FW g B w w2 := ⟨k.os.trans h.os, k.tape.trans h.tape, k.output.trans h.output, Nat.le_trans h.size k.size, fun i hi hn => (k.block i hi hn).trans (h.block i hi hn)⟩
theorem FW.of_below {g B : Nat} {w W : World} (h : Below B w W) : FW g B w W := ⟨h.os, h.tape, h.output, h.size, fun k hk _ => h.block k hk⟩
theorem FW.set (g B o : Nat) (w : World) (u : Value) : FW g B w (w.setCell ⟨g, o, none⟩ u) := ⟨rfl, rfl, rfl, by simp, fun k _ hn => Below.heap_setCell _ _ _ _ hn⟩
theorem own_fw {w w' : World} {g B t size n : Nat} {v : Value} {xs : List Value} (h : w.ownsRow B t size v n xs) (f : ∀ k, k ≠ g → w'.heap[k]? = w.heap[k]?) (h1 : w'.os = w.os) (h2 : w'.tape = w.tape) (h3 : w'.output = w.output) (h4 : w.heap.size ≤ w'.heap.size) (hg : g < B) : w'.ownsRow B t size v n xs :=
  h.kept (row := some g) ⟨h1, h2, h3, h4, fun k hk hn => f k (fun e => hn (by rw [e]))⟩ (by
    rcases h.2 with ⟨rfl, _⟩ | ⟨g', cap, cur, rfl, hb, _⟩
    · exact .inl rfl
    · exact .inr (by simp [Value.ownBlock]; omega))
theorem own_set {w : World} {g o B t size n : Nat} {v : Value} {xs : List Value} (h : w.ownsRow B t size v n xs) (hg : g < B) (u : Value) : (w.setCell ⟨g, o, none⟩ u).ownsRow B t size v n xs :=
  own_fw h (fun k hn => Below.heap_setCell _ _ _ _ hn) rfl rfl rfl (by simp) hg
def byL (l : List Nat) : List Value := l.map fun (x : Nat) => Value.int .u8 (x : Int)
theorem byL_len (l : List Nat) : (byL l).length = l.length := by simp [byL]
def OwnB (w : World) (B : Nat) (v : Value) (l : List Nat) : Prop := w.ownsRow B 5 1 v l.length (byL l)
/-- a writer at g with these bytes -/
structure WS (g B : Nat) (w W : World) (v : Value) (l : List Nat) : Prop where
  fw : FW g B w W
  G : Blk W g 28 #[v]
  own : OwnB W B v l
  gB : g < B
  hB : B ≤ w.heap.size
theorem WS.next {g B : Nat} {w w1 w2 : World} {v v' : Value} {l l' : List Nat} (h : WS g B w w1 v l) (k : WS g B w1 w2 v' l') : WS g B w w2 v' l' := ⟨h.fw.trans k.fw, k.G, k.own, h.gB, h.hB⟩
theorem WS.again {g B : Nat} {w W : World} {v : Value} {l : List Nat} (h : WS g B w W v l) : WS g B W W v l := ⟨FW.refl _ _ _, h.G, h.own, h.gB, Nat.le_trans h.hB h.fw.size⟩
theorem WS.below {g B : Nat} {w W W' : World} {v : Value} {l : List Nat} (h : WS g B w W v l) (hb : Below W.heap.size W W') : WS g B w W' v l := by
  have hz := Nat.le_trans h.hB h.fw.size
  exact ⟨h.fw.trans (FW.of_below (hb.mono hz)), h.G.below hb, own_below h.own hb, h.gB, h.hB⟩
/-- the row has grown and is stored -/
theorem WS.grown {g B : Nat} {w W W' : World} {v v' : Value} {l l' : List Nat} (h : WS g B w W v l) (hb : Below B W W') (hown : OwnB W' B v' l') : WS g B w (W'.setCell ⟨g, 0, none⟩ v') v' l' := by
  refine ⟨(h.fw.trans (FW.of_below hb)).trans (FW.set g B 0 W' v'), ?_, own_set hown h.gB v', h.gB, h.hB⟩
  have hG : Blk W' g 28 #[v] := (hb.block g h.gB).trans h.G
  simpa using hG.set 0 v'
theorem byInfo : (Tryd.prog.info? 5).map (fun i => (i.zero, i.size, i.bytes)) = some (some (.int .u8 0), 1, 1) := by kernel_rfl
theorem cells1b (w : World) (t : TypeId) (v : Value) : ∀ j u, [v][j]? = some u → (w.alloc (.cells #[v] t)).cell? ((⟨w.heap.size, 0, none⟩ : Addr).add j) = some u := by
  intro j u hj
  match j, hj with
  | 0, hj => simp at hj; subst hj; simp [Addr.add]
  | j + 1, hj => simp at hj
theorem uv_len10 {n : Nat} (h : n < 18446744073709551616) : (uv n).length ≤ 10 := uv_len 9 n (Nat.lt_of_lt_of_le h (by decide))
def RetWr (g B : Nat) (w : World) (l : List Nat) (e : Ending) (w' : World) : Prop := e = .returned (.tuple #[]) ∧ ∃ v', WS g B w w' v' l
set_option maxHeartbeats 2000000 in
set_option maxRecDepth 100000 in
theorem wuint_any (g B n : Nat) (l : List Nat) (v : Value) (w : World) (h : WS g B w w v l) (hn : n < 18446744073709551616) (hl : l.length ≤ 2000) :
    Calls Tryd.prog 19 #[.pointer (some ⟨g, 0, none⟩), .int .u64 n] w (RetWr g B w (l ++ uv n)) := by
  have hnl : (l ++ uv n).length ≤ 2010 := by have := uv_len10 hn; simp; omega
  have H0 := Box.mk h
  obtain ⟨r, HR⟩ : ∃ r, Box (l ++ uv n = r) := ⟨_, ⟨rfl⟩⟩
  rw [HR.out] at hnl ⊢
  obtain ⟨j0, hj, hy0, hy1, hy2⟩ := info_parts byInfo
  have HJ := Box.mk (And.intro hj (And.intro hy0 (And.intro hy1 hy2)))
  clear h hj hy0 hy1 hy2
  go_enter Tryd.func19, Tryd.ntmps19
  go_wp2_with fail
  go_loopw [1] (fun z wr => ∃ (m : Nat) (l' : List Nat) (v' : Value), m < 18446744073709551616 ∧ z = .int .u64 (m : Nat) ∧ Box (l' ++ uv m = r) ∧ WS g B w wr v' l') (fun z _ => (intOf z).toNat)
  case atStart => exact ⟨n, l, v, hn, rfl, HR, H0.out⟩
  case round =>
    clear H0 HR
    obtain ⟨m, l', v', hm, rfl, HR, hws⟩ := hrel
    obtain ⟨A', c', hv'⟩ := own_form hws.own
    subst hv'
    have HW := Box.mk hws
    have hlen : l'.length ≤ 2010 := by have := congrArg List.length HR.out; simp at this; omega
    have hzB := Nat.le_trans hws.hB hws.fw.size
    have hgB := hws.gB
    clear hws
    have g0 := HW.out.G.c1
    have gf := HW.out.G.frozen
    by_cases hb : m < 128
    · have hm2 : ¬ (128 : Int) ≤ (m : Int) := by omega
      have e1 : IntKind.u8.wrap (m : Int) = (m : Int) := by rw [IntKind.wrap_u8]; omega
      have HU : Box (l' ++ [m] = r) := ⟨by rw [← HR.out, uv_small hb]⟩
      go_wp2_with (at_builtin; refine wpList_append_lies _ rfl _ _ 26 rfl B 5 j0 _ 1 1 Tryd.underlying26 HJ.out.1 HJ.out.2.1 HJ.out.2.2.1 HJ.out.2.2.2 rfl (by decide) (.slice A' l'.length c') l'.length (byL l') rfl (by exact World.ownsRow.alloc HW.out.own _) ⟨wr.heap.size, 0, none⟩ 1 1 [.int .u8 (m : Int)] rfl rfl (cells1b _ _ _) (by simp [Value.oneCell']) (by decide) (by unfold maxLen; omega) (by omega) (by simp; omega) _ rfl ?_; intro g8 cap8 w6 hown6 hg6 hat6 hlt6; have HB6 : Box (Below B wr w6) := Box.mk (((Below.refl B wr).alloc hzB _).trans (grow_lt (World.ownsRow.alloc HW.out.own _) hg6 (by simp; omega))); have HG6 := Box.mk ((HB6.out.block g hgB).trans HW.out.G); have g6 := Blk.c1 (b := g) HG6.out; have gf6 := Blk.frozen (g := g) HG6.out; have HO6 : Box (OwnB w6 B (.slice (some ⟨g8, 0, none⟩) (l'.length + 1) cap8) (l' ++ [m])) := Box.mk (by unfold OwnB; simpa [byL] using hown6); clear hown6 hg6 hat6 hlt6 HG6)
      go_end0
      exact ⟨rfl, _, by rw [← HU.out]; exact HW.out.grown HB6.out HO6.out⟩
    · have hm2 : (128 : Int) ≤ (m : Int) := by omega
      have e1 : IntKind.u8.wrap (m : Int) = ((m % 256 : Nat) : Int) := by rw [IntKind.wrap_u8]; omega
      have e2 : bits .or .u8 ((m : Int) % 256) 128 = ((m % 128 + 128 : Nat) : Int) := by
        have h := or128 (m % 256) (by omega)
        rw [show ((m % 256 : Nat) : Int) = (m : Int) % 256 by omega] at h
        rw [h]; congr 1; omega
      have HU : Box ((l' ++ [m % 128 + 128]) ++ uv (m / 128) = r) := ⟨by rw [← HR.out, uv_big hb]; simp⟩
      go_wp2_with (at_builtin; refine wpList_append_lies _ rfl _ _ 26 rfl B 5 j0 _ 1 1 Tryd.underlying26 HJ.out.1 HJ.out.2.1 HJ.out.2.2.1 HJ.out.2.2.2 rfl (by decide) (.slice A' l'.length c') l'.length (byL l') rfl (by exact World.ownsRow.alloc HW.out.own _) ⟨wr.heap.size, 0, none⟩ 1 1 [.int .u8 ((m % 128 + 128 : Nat) : Int)] rfl rfl (cells1b _ _ _) (by simp [Value.oneCell']) (by decide) (by unfold maxLen; omega) (by omega) (by simp; omega) _ rfl ?_; intro g8 cap8 w6 hown6 hg6 hat6 hlt6; have HB6 : Box (Below B wr w6) := Box.mk (((Below.refl B wr).alloc hzB _).trans (grow_lt (World.ownsRow.alloc HW.out.own _) hg6 (by simp; omega))); have HG6 := Box.mk ((HB6.out.block g hgB).trans HW.out.G); have g6 := Blk.c1 (b := g) HG6.out; have gf6 := Blk.frozen (g := g) HG6.out; have HO6 : Box (OwnB w6 B (.slice (some ⟨g8, 0, none⟩) (l'.length + 1) cap8) (l' ++ [m % 128 + 128])) := Box.mk (by unfold OwnB; simpa [byL] using hown6); clear hown6 hg6 hat6 hlt6 HG6)
      go_roundw
      case rel => exact ⟨m / 128, _, _, by omega, by first | rfl | simp, HU, HW.out.grown HB6.out HO6.out⟩
      case measure => simp [intOf]; omega
end Go.Proofs.YtinbfdfgebiaeaaDoor
