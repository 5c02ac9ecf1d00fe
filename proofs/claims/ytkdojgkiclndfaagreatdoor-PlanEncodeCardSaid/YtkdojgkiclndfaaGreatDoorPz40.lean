/- Contracts, packed: Ba. -/
import Derived.Test.YtkdojgkiclndfaaGreatDoorPz9
import Derived.Test.YtkdojgkiclndfaaGreatDoorPz39
import Derived.OwnWalk
import Derived.Laws.OwnMore
import Derived.Deep.AppendLies
import Derived.Deep.CutBlock
import Derived.Deep.RegionWith
import Derived.Deep.DeepCutAuto
import Derived.Lib.AppendStr
import Derived.Deep.DeepAppendWide
set_option linter.unusedVariables false
set_option linter.unusedSimpArgs false
namespace Go.Proofs.YtkdojgkiclndfaaGreatDoor
section
open Go.RowKit
theorem grow_ltW {w w' : World} {B t size n : Nat} {v : Value} {xs : List Value} (h : w.ownsRow B t size v n xs) (hg : w.grownBy w' v.ownBlock) (hB : B ≤ w.heap.size) : Below B w w' :=
 (Below.refl B w).grown hg hB (fun g hk => by
  rcases h.2 with ⟨rfl, _⟩ | ⟨g', cap, cur, rfl, hb, _⟩
  ·simp [Value.ownBlock] at hk
  ·simp [Value.ownBlock] at hk; omega)
/-- the frame of a writer at g whose bytes lie in u: all other old blocks stay -/
structure FW (g : Nat) (u : Value) (w W : World) : Prop where
 os : W.os = w.os
 tape : W.tape = w.tape
 output : W.output = w.output
 size : w.heap.size ≤ W.heap.size
 block : ∀ k, k < w.heap.size → k ≠ g → u.ownBlock ≠ some k → W.heap[k]? = w.heap[k]?
theorem FW.refl (g : Nat) (u : Value) (w : World) : FW g u w w := ⟨rfl, rfl, rfl, Nat.le_refl _, fun _ _ _ _ => rfl⟩
theorem FW.of_below {g : Nat} {u : Value} {w W : World} (h : Below w.heap.size w W) : FW g u w W := ⟨h.os, h.tape, h.output, h.size, fun k hk _ _ => h.block k hk⟩
def NewO (w : World) (u v : Value) : Prop := ∀ k, v.ownBlock = some k → u.ownBlock = some k ∨ w.heap.size ≤ k
theorem FW.trans {g : Nat} {u v : Value} {w w1 w2 : World} (h : FW g u w w1) (n : NewO w u v) (k : FW g v w1 w2) : FW g u w w2 :=
 ⟨k.os.trans h.os, k.tape.trans h.tape, k.output.trans h.output, Nat.le_trans h.size k.size, fun i hi hg hu => (k.block i (Nat.lt_of_lt_of_le hi h.size) hg (fun e => by rcases n i e with h1 | h1; exact hu h1; omega)).trans (h.block i hi hg hu)⟩
theorem gr_alloc {w w' : World} {o : Obj} {row : Option Nat} (h : (w.alloc o).grownBy w' row) : w.grownBy w' row :=
 ⟨h.os, h.tape, h.output, Nat.le_trans (bel1 w o).size h.size, fun i hi hn => (h.block i (Nat.lt_of_lt_of_le hi (bel1 w o).size) hn).trans ((bel1 w o).block i hi)⟩
theorem own_fw {w w' : World} {g B t size n : Nat} {v : Value} {xs : List Value} (h : w.ownsRow B t size v n xs) (f : ∀ k, k ≠ g → w'.heap[k]? = w.heap[k]?) (h1 : w'.os = w.os) (h2 : w'.tape = w.tape) (h3 : w'.output = w.output) (h4 : w.heap.size ≤ w'.heap.size) (hg : g < B) : w'.ownsRow B t size v n xs :=
 h.kept (row := some g) ⟨h1, h2, h3, h4, fun k hk hn => f k (fun e => hn (by rw [e]))⟩ (by
  rcases h.2 with ⟨rfl, _⟩ | ⟨g', cap, cur, rfl, hb, _⟩
  ·exact .inl rfl
  ·exact .inr (by simp [Value.ownBlock]; omega))
theorem own_setF {w : World} {g o B t size n : Nat} {v : Value} {xs : List Value} (h : w.ownsRow B t size v n xs) (hg : g < B) (u : Value) : (w.setCell ⟨g, o, none⟩ u).ownsRow B t size v n xs :=
 own_fw h (fun k hn => Below.heap_setCell _ _ _ _ hn) rfl rfl rfl (by simp) hg
def u8L (l : List Nat) : List Value := l.map fun (x : Nat) => Value.int .u8 (x : Int)
theorem u8L_len (l : List Nat) : (u8L l).length = l.length := by simp [u8L]
def OwnB (w : World) (B : Nat) (v : Value) (l : List Nat) : Prop := w.ownsRow B 5 1 v l.length (u8L l)
/-- a writer at g with these bytes -/
structure WS (g B : Nat) (w W : World) (u v : Value) (l : List Nat) : Prop where
 fw : FW g u w W
 new : NewO w u v
 G : Blk W g 89 #[v]
 own : OwnB W B v l
 gB : g < B
 hB : B ≤ w.heap.size
theorem WS.next {g B : Nat} {w w1 w2 : World} {u v v' : Value} {l l' : List Nat} (h : WS g B w w1 u v l) (k : WS g B w1 w2 v v' l') : WS g B w w2 u v' l' :=
 ⟨h.fw.trans h.new k.fw, fun i hi => by
  rcases k.new i hi with h1 | h1
  ·exact h.new i h1
  ·exact .inr (Nat.le_trans h.fw.size h1), k.G, k.own, h.gB, h.hB⟩
theorem WS.again {g B : Nat} {w W : World} {u v : Value} {l : List Nat} (h : WS g B w W u v l) : WS g B W W v v l := ⟨FW.refl _ _ _, fun k hk => .inl hk, h.G, h.own, h.gB, Nat.le_trans h.hB h.fw.size⟩
theorem WS.below {g B : Nat} {w W W' : World} {u v : Value} {l : List Nat} (h : WS g B w W u v l) (hb : Below W.heap.size W W') : WS g B w W' u v l :=
 ⟨h.fw.trans h.new (FW.of_below hb), h.new, h.G.below hb, own_below h.own hb, h.gB, h.hB⟩
/-- the row has grown and is stored -/
theorem WS.grown {g B : Nat} {w W W' : World} {u v v' : Value} {l l' : List Nat} (h : WS g B w W u v l) (hg : W.grownBy W' v.ownBlock) (hn : NewO W v v') (hown : OwnB W' B v' l') : WS g B w (W'.setCell ⟨g, 0, none⟩ v') u v' l' := by
 have hz := Nat.le_trans h.hB h.fw.size
 have hgB := h.gB
 have hv : ∀ k, v.ownBlock = some k → B ≤ k := fun k hk => by
  rcases h.own.2 with ⟨rfl, _⟩ | ⟨g', cap, cur, rfl, hb, _⟩
  ·simp [Value.ownBlock] at hk
  ·simp [Value.ownBlock] at hk; omega
 have hs : (W'.setCell ⟨g, 0, none⟩ v').heap.size = W'.heap.size := by simp
 refine ⟨h.fw.trans h.new ⟨hg.os, hg.tape, hg.output, by rw [hs]; exact hg.size, fun k hk h1 h2 => (Below.heap_setCell _ _ _ _ h1).trans (hg.block k hk (fun e => h2 e.symm))⟩, fun k hk => ?_, ?_, own_setF hown h.gB v', h.gB, h.hB⟩
 ·rcases hn k hk with h1 | h1
  ·exact h.new k h1
  ·exact .inr (Nat.le_trans h.fw.size h1)
 ·have hG : Blk W' g 89 #[v] := (hg.block g (by omega) (fun e => by have := hv g e.symm; omega)).trans h.G
  simpa using hG.set 0 v'
section
variable {P : Program} (w : World)
/-- append of a string's bytes: the row stays where it is, or is new -/
theorem run_str_at (base : Nat) (t u ty e : TypeId) (i : TypeInfo) (ht : P.underlying t = some (.slice e)) (hu : P.underlying u = some .string) (hi : P.info? e = some i) (hz : i.zero = some (.int .u8 0))
  (hsize : i.size = 1) (hby : i.bytes = 1) (v : Value) (n : Nat) (xs : List Value) (hown : w.ownsRow base e 1 v n xs) (s : ByteArray) (hsm : n + s.size ≤ 1000000000) (hbase : base ≤ w.heap.size) :
  ∃ v' w', (Builtin.append_ #[t, u] ty #[v, .string s]).run P w = .ok v' w' ∧ w'.ownsRow base e 1 v' (n + s.size) (xs ++ Lib.strCells s) ∧ w.grownBy w' v.ownBlock ∧ NewO w v v' := by
 have hm : n + s.size ≤ maxLen := by unfold maxLen; omega
 rcases hown.2 with ⟨rfl, rfl⟩ | ⟨g, cap, cur, rfl, hbg, hg, hnc, hcm, hcs, htake⟩
 ·obtain ⟨v', w', h1, h2, h3, -⟩ := Lib.run_append_own_string (P := P) w w.heap.size t u ty e i ht hu hi hz hsize hby (.slice none 0 0) 0 [] (World.ownsRow_nil _ _ _ _) s hm (by omega) (Nat.le_refl _)
  have hx : xs = [] := List.eq_nil_of_length_eq_zero (by simpa using hown.1)
  subst hx
  have hnew : ∀ k, v'.ownBlock = some k → w.heap.size ≤ k := fun k hk => by
   rcases h2.2 with ⟨rfl, _⟩ | ⟨g', cap, cur, rfl, hb, _⟩
   ·simp [Value.ownBlock] at hk
   ·simp [Value.ownBlock] at hk; omega
  refine ⟨v', w', h1, ⟨h2.1, ?_⟩, h3, fun k hk => .inr (hnew k hk)⟩
  rcases h2.2 with h | ⟨g', cap, cur, hv, hb, rest⟩
  ·exact .inl h
  ·exact .inr ⟨g', cap, cur, hv, by omega, rest⟩
 ·obtain ⟨v', w', h1, h2, h3, -⟩ := Lib.run_append_own_string (P := P) w base t u ty e i ht hu hi hz hsize hby (.slice (some ⟨g, 0, none⟩) n cap) n xs hown s hm (by omega) hbase
  refine ⟨v', w', h1, h2, h3, ?_⟩
  by_cases hr : n + s.size ≤ cap
  ·have h4 := Lib.run_append_room_string (P := P) w t u ty e i ht hu hi hsize g n cap cur hg s hr (by rw [hcs]; omega)
   rw [h1] at h4
   injection h4 with h5 h6
   subst h5
   exact fun k hk => .inl hk
  ·have h4 := Lib.run_append_grow_string (P := P) w t u ty e i (.int .u8 0) ht hu hi hz ⟨g, 0, none⟩ n cap xs (by rw [hsize]; exact hown.1) (fun j x hx => hown.cells (g := g) rfl j x hx) s (by omega) (by unfold maxLen at hm; omega) (growslice_fits_wide (by omega) (by rw [hby]; omega))
   rw [h1] at h4
   injection h4 with h5 h6
   subst h5
   exact fun k hk => .inr (by simp [Value.ownBlock] at hk; omega)
theorem wpList_str_at {ops : Array Oper} {rest : List Oper} {o : Oper} {a : Act} {Q : Exit → Act → World → Prop} (hgd : o.guard = none) (sl x : Operand) (t u : TypeId)
  (ho : o.op = .call { callee := .builtin .append, args := #[sl, x], argTypes := #[t, u] })
  (base : Nat) (e : TypeId) (i : TypeInfo) (ht : P.underlying t = some (.slice e)) (hu : P.underlying u = some .string) (hi : P.info? e = some i) (hz : i.zero = some (.int .u8 0))
  (hsize : i.size = 1) (hby : i.bytes = 1) (v : Value) (n : Nat) (xs : List Value) (hs : a.eval sl = v) (hown : w.ownsRow base e 1 v n xs) (s : ByteArray) (hx : a.eval x = .string s)
  (hsm : n + s.size ≤ 1000000000) (hbase : base ≤ w.heap.size)
  (h : ∀ v' w', w'.ownsRow base e 1 v' (n + s.size) (xs ++ Lib.strCells s) → w.grownBy w' v.ownBlock → NewO w v v' → wpList P ops Q rest (a.put o.dst v') w') : wpList P ops Q (o :: rest) a w := by
 refine wpList_plain hgd fun K hK => ?_
 obtain ⟨v', w', hr, h2, h3, h4⟩ := run_str_at (P := P) w base t u o.type e i ht hu hi hz hsize hby v n xs hown s hsm hbase
 unfold Oper.wp execOp
 simp only [ho, resolve, invoke, builtin, Sem.run_bind, Sem.run_pure, Result.andThen_ok, List.map_toArray, List.map_cons, List.map_nil, hs, hx, hr]
 exact hK _ _ (h v' w' h2 h3 h4)
end
theorem byInfo : (Tryz.prog.info? 5).map (fun i => (i.zero, i.size, i.bytes)) = some (some (.int .u8 0), 1, 1) := by kernel_rfl
theorem cells1b (w : World) (t : TypeId) (v : Value) : ∀ j u, [v][j]? = some u → (w.alloc (.cells #[v] t)).cell? ((⟨w.heap.size, 0, none⟩ : Addr).add j) = some u := by
 intro j u hj
 match j, hj with
 | 0, hj => simp at hj; subst hj; simp [Addr.add]
 | j + 1, hj => simp at hj
theorem uvN_len10 {n : Nat} (h : n < 18446744073709551616) : (uvN n).length ≤ 10 := uvN_len 9 n (Nat.lt_of_lt_of_le h (by decide))
def RetWr (g B : Nat) (w : World) (u : Value) (l : List Nat) (e : Ending) (w' : World) : Prop := e = .returned (.tuple #[]) ∧ ∃ v', WS g B w w' u v' l
set_option maxHeartbeats 2000000 in
set_option maxRecDepth 100000 in
theorem wuint_any (g B n : Nat) (l : List Nat) (v : Value) (w : World) (h : WS g B w w v v l) (hn : n < 18446744073709551616) (hl : l.length ≤ 1000000) :
  Calls Tryz.prog 77 #[.pointer (some ⟨g, 0, none⟩), .int .u64 n] w (RetWr g B w v (l ++ uvN n)) := by
 have hnl : (l ++ uvN n).length ≤ 1000100 := by have := uvN_len10 hn; simp; omega
 have H0 := Box.mk h
 obtain ⟨r, HR⟩ : ∃ r, Box (l ++ uvN n = r) := ⟨_, ⟨rfl⟩⟩
 rw [HR.out] at hnl ⊢
 obtain ⟨j0, hj, hy0, hy1, hy2⟩ := info_parts byInfo
 have HJ := Box.mk (And.intro hj (And.intro hy0 (And.intro hy1 hy2)))
 clear h hj hy0 hy1 hy2
 go_enter Tryz.func77, Tryz.ntmps77
 go_wp2_with fail
 go_loopw [1] (fun z wr => ∃ (m : Nat) (l' : List Nat) (v' : Value), m < 18446744073709551616 ∧ z = .int .u64 (m : Nat) ∧ Box (l' ++ uvN m = r) ∧ WS g B w wr v v' l') (fun z _ => (intOf z).toNat)
 case atStart => exact ⟨n, l, v, hn, rfl, HR, H0.out⟩
 case round =>
  clear H0 HR
  obtain ⟨m, l', v', hm, rfl, HR, hws⟩ := hrel
  obtain ⟨A', c', hv'⟩ := own_form hws.own
  subst hv'
  have HW := Box.mk hws
  have hlen : l'.length ≤ 1000100 := by have := congrArg List.length HR.out; simp at this; omega
  have hzB := Nat.le_trans hws.hB hws.fw.size
  have hgB := hws.gB
  clear hws
  have g0 := HW.out.G.c1
  have gf := HW.out.G.frozen
  by_cases hb : m < 128
  ·have hm2 : ¬ (128 : Int) ≤ (m : Int) := by omega
   have e1 : IntKind.u8.wrap (m : Int) = (m : Int) := by rw [IntKind.wrap_u8]; omega
   have HU : Box (l' ++ [m] = r) := ⟨by rw [← HR.out, uvN_small hb]⟩
   go_wp2_with (at_builtin; refine wpList_append_lies _ rfl _ _ 39 rfl B 5 j0 _ 1 1 Tryz.underlying39 HJ.out.1 HJ.out.2.1 HJ.out.2.2.1 HJ.out.2.2.2 rfl (by decide) (.slice A' l'.length c') l'.length (u8L l') rfl (by exact World.ownsRow.alloc HW.out.own _) ⟨wr.heap.size, 0, none⟩ 1 1 [.int .u8 (m : Int)] rfl rfl (cells1b _ _ _) (by simp [Value.oneCell']) (by decide) (by unfold maxLen; omega) (by omega) (by simp; omega) _ rfl ?_; intro g8 cap8 w6 hown6 hg6 hat6 hlt6; have HB6 : Box (Below B wr w6) := Box.mk (((Below.refl B wr).alloc hzB _).trans (grow_ltW (World.ownsRow.alloc HW.out.own _) hg6 (by simp; omega))); have HG6 := Box.mk ((HB6.out.block g hgB).trans HW.out.G); have g6 := Blk.c1 (b := g) HG6.out; have gf6 := Blk.frozen (g := g) HG6.out; have HO6 : Box (OwnB w6 B (.slice (some ⟨g8, 0, none⟩) (l'.length + 1) cap8) (l' ++ [m])) := Box.mk (by unfold OwnB; simpa [u8L] using hown6); have HGR := Box.mk (HW.out.grown (gr_alloc hg6) (fun k hk => by simp [Value.ownBlock] at hk; subst hk; rcases hat6 with h | h; exact .inl h; exact .inr (by simp at h; omega)) HO6.out); clear hown6 hg6 hat6 hlt6 HG6)
   go_end0
   exact ⟨rfl, _, by rw [← HU.out]; exact HGR.out⟩
  ·have hm2 : (128 : Int) ≤ (m : Int) := by omega
   have e1 : IntKind.u8.wrap (m : Int) = ((m % 256 : Nat) : Int) := by rw [IntKind.wrap_u8]; omega
   have e2 : bits .or .u8 ((m : Int) % 256) 128 = ((m % 128 + 128 : Nat) : Int) := by
    have h := or128 (m % 256) (by omega)
    rw [show ((m % 256 : Nat) : Int) = (m : Int) % 256 by omega] at h
    rw [h]; congr 1; omega
   have HU : Box ((l' ++ [m % 128 + 128]) ++ uvN (m / 128) = r) := ⟨by rw [← HR.out, uvN_big hb]; simp⟩
   go_wp2_with (at_builtin; refine wpList_append_lies _ rfl _ _ 39 rfl B 5 j0 _ 1 1 Tryz.underlying39 HJ.out.1 HJ.out.2.1 HJ.out.2.2.1 HJ.out.2.2.2 rfl (by decide) (.slice A' l'.length c') l'.length (u8L l') rfl (by exact World.ownsRow.alloc HW.out.own _) ⟨wr.heap.size, 0, none⟩ 1 1 [.int .u8 ((m % 128 + 128 : Nat) : Int)] rfl rfl (cells1b _ _ _) (by simp [Value.oneCell']) (by decide) (by unfold maxLen; omega) (by omega) (by simp; omega) _ rfl ?_; intro g8 cap8 w6 hown6 hg6 hat6 hlt6; have HB6 : Box (Below B wr w6) := Box.mk (((Below.refl B wr).alloc hzB _).trans (grow_ltW (World.ownsRow.alloc HW.out.own _) hg6 (by simp; omega))); have HG6 := Box.mk ((HB6.out.block g hgB).trans HW.out.G); have g6 := Blk.c1 (b := g) HG6.out; have gf6 := Blk.frozen (g := g) HG6.out; have HO6 : Box (OwnB w6 B (.slice (some ⟨g8, 0, none⟩) (l'.length + 1) cap8) (l' ++ [m % 128 + 128])) := Box.mk (by unfold OwnB; simpa [u8L] using hown6); have HGR := Box.mk (HW.out.grown (gr_alloc hg6) (fun k hk => by simp [Value.ownBlock] at hk; subst hk; rcases hat6 with h | h; exact .inl h; exact .inr (by simp at h; omega)) HO6.out); clear hown6 hg6 hat6 hlt6 HG6)
   go_roundw
   case rel => exact ⟨m / 128, _, _, by omega, by first | rfl | simp, HU, HGR.out⟩
   case measure => simp [intOf]; omega
set_option maxHeartbeats 1000000 in
theorem wint_any (g B : Nat) (n : Int) (l : List Nat) (v : Value) (w : World) (h : WS g B w w v v l) (n1 : -9223372036854775808 ≤ n) (n2 : n ≤ 9223372036854775807) (hl : l.length ≤ 1000000) :
  Calls Tryz.prog 46 #[.pointer (some ⟨g, 0, none⟩), .int .i64 n] w (RetWr g B w v (l ++ uvN (zig n))) := by
 have H0 := Box.mk h
 have hz := Box.mk (zig_lt n1 n2)
 have e1 : bits .xor .u64 (IntKind.u64.wrap (IntKind.u64.wrap n * 2)) (IntKind.u64.wrap (n / 9223372036854775808)) = (zig n : Nat) := by
  rw [IntKind.wrap_u64, IntKind.wrap_u64, IntKind.wrap_u64, ← zig_eq n1 n2]
  congr 1; omega
 clear h n1 n2
 go_enter Tryz.func46, Tryz.ntmps46
 go_wp2_with fail
 refine (wuint_any g B (zig n) l v _ H0.out hz.out hl).mono ?_
 rintro e w1 ⟨rfl, hw⟩
 go_wp2_with fail
 go_end0
 exact ⟨rfl, hw⟩
/-- the bytes of a string -/
def strB (s : ByteArray) : List Nat := s.data.toList.map fun b => b.toNat
theorem strB_len (s : ByteArray) : (strB s).length = s.size := by unfold strB; rw [List.length_map]; show _ = s.data.size; simp
theorem OwnB.of_str {w : World} {B : Nat} {v : Value} {l1 : List Nat} {s : ByteArray} (h : w.ownsRow B 5 1 v (l1.length + s.size) (u8L l1 ++ Lib.strCells s)) : OwnB w B v (l1 ++ strB s) := by
 unfold OwnB
 have e : u8L (l1 ++ strB s) = u8L l1 ++ Lib.strCells s := by
  unfold u8L strB Lib.strCells
  rw [List.map_append, List.map_map]
  rfl
 rw [e, List.length_append, strB_len]
 exact h
set_option maxHeartbeats 1000000 in
theorem wtext_any (g B : Nat) (s : ByteArray) (l : List Nat) (v : Value) (w : World) (h : WS g B w w v v l) (hs : s.size ≤ 100000) (hl : l.length ≤ 900000) :
  Calls Tryz.prog 45 #[.pointer (some ⟨g, 0, none⟩), .string s] w (RetWr g B w v (l ++ uvN s.size ++ strB s)) := by
 have H0 := Box.mk h
 have hss : s.size ≤ 100000 := hs
 have hl1 : (l ++ uvN s.size).length ≤ 900010 := by have := uvN_len10 (n := s.size) (by omega); simp; omega
 obtain ⟨l1, HL⟩ : ∃ l1, Box (l ++ uvN s.size = l1) := ⟨_, ⟨rfl⟩⟩
 rw [HL.out] at hl1 ⊢
 have e1 : IntKind.u64.wrap (s.size : Int) = (s.size : Int) := by rw [IntKind.wrap_u64]; omega
 obtain ⟨j0, hj, hy0, hy1, hy2⟩ := info_parts byInfo
 have HJ := Box.mk (And.intro hj (And.intro hy0 (And.intro hy1 hy2)))
 clear h hs hj hy0 hy1 hy2
 go_enter Tryz.func45, Tryz.ntmps45
 go_wp2_with fail
 refine (wuint_any g B s.size l v _ H0.out (by omega) (by omega)).mono ?_
 rintro e w1 ⟨rfl, v1, hw⟩
 rw [HL.out] at hw
 obtain ⟨A', c', hv'⟩ := own_form hw.own
 subst hv'
 have HW := Box.mk hw
 have g0 := HW.out.G.c1
 have gf := HW.out.G.frozen
 have hzB := Nat.le_trans hw.hB hw.fw.size
 have hgB := hw.gB
 clear hw H0
 go_wp2_with (at_builtin; refine wpList_str_at _ rfl _ _ 39 9 rfl B 5 j0 Tryz.underlying39 Tryz.underlying9 HJ.out.1 HJ.out.2.1 HJ.out.2.2.1 HJ.out.2.2.2 (.slice A' l1.length c') l1.length (u8L l1) rfl HW.out.own s rfl (by omega) hzB ?_; intro v6 w6 hown6 hg6 hnil6; obtain ⟨A8, c8, hv6⟩ := own_form hown6; subst hv6; have HB6 : Box (Below B w1 w6) := Box.mk (grow_ltW HW.out.own hg6 hzB); have HG6 := Box.mk ((HB6.out.block g hgB).trans HW.out.G); have g6 := Blk.c1 (b := g) HG6.out; have gf6 := Blk.frozen (g := g) HG6.out; have HO6 : Box (OwnB w6 B (.slice A8 (l1.length + s.size) c8) (l1 ++ strB s)) := Box.mk (OwnB.of_str hown6); have HGR := Box.mk (HW.out.grown hg6 hnil6 HO6.out); clear hown6 hg6 hnil6 HG6)
 go_end0
 exact ⟨rfl, _, HGR.out⟩
end
end Go.Proofs.YtkdojgkiclndfaaGreatDoor
