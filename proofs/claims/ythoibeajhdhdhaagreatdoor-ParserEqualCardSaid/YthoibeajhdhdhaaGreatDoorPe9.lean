/- Contracts, packed: Qg Qh Yg Jb. -/
import Derived.Test.YthoibeajhdhdhaaGreatDoorPe4
import Derived.Test.YthoibeajhdhdhaaGreatDoorPe8
import Derived.IntWalk
import Derived.Maps.AppendAt
import Derived.OwnWalk
import Derived.Laws.OwnMore
import Derived.Shelf.Strings.BuilderK
import Derived.Lib.FrozenHead2
set_option linter.unusedVariables false
set_option linter.unusedSimpArgs false
namespace Go.Proofs.YthoibeajhdhdhaaGreatDoor
section
open Go.RowKit
def I64 (x : Int) : Prop := -9223372036854775808 ≤ x ∧ x ≤ 9223372036854775807
def Ints (w : World) (base : Nat) (v : Value) (l : List Int) : Prop := Seq w base 3 1 v l.length (l.map (Value.int .i64)) ∧ ∀ x ∈ l, I64 x
def Strs (w : World) (base : Nat) (v : Value) (l : List ByteArray) : Prop := Seq w base 9 1 v l.length (l.map Value.string)
theorem Ints.nil (w : World) (base : Nat) : Ints w base (.slice none 0 0) [] := ⟨Seq.nil _ _ _ _, fun x hx => by simp at hx⟩
theorem Ints.below {w w' : World} {base : Nat} {v : Value} {l : List Int} (h : Ints w base v l) (f : Below w.heap.size w w') : Ints w' base v l := ⟨h.1.below f, h.2⟩
theorem Seq.len {w : World} {base t size m n c : Nat} {A : Option Addr} {xs : List Value} (h : Seq w base t size (.slice A n c) m xs) : n = m ∧ n ≤ 9223372036854775807 := by
 obtain ⟨_, A', c', hv, h1, h2, _⟩ := h
 cases hv
 unfold maxLen at h2
 exact ⟨rfl, by omega⟩
theorem Seq.at1 {w : World} {base t n c : Nat} {A : Option Addr} {m : Nat} {xs : List Value} (h : Seq w base t 1 (.slice A n c) m xs) (k : Nat) (u : Value) (hk : xs[k]? = some u) : ∃ b off, A = some ⟨b, off, none⟩ ∧ b < w.heap.size ∧ w.cell? ⟨b, off + k, none⟩ = some u := by
 obtain ⟨h1, A', c', hv, _, _, h2⟩ := h
 cases hv
 have hlt : k < xs.length := (List.getElem?_eq_some_iff.1 hk).1
 obtain ⟨b, off, rfl, hf, hx⟩ := h2 (by omega)
 exact ⟨b, off, rfl, hf.1, hx k u hk⟩
/-- an argument that is a slice of integers -/
theorem Ints.of_row {w : World} {x : Addr} {len cap : Nat} {zs : List Int} (hl : len ≤ cap) (hm : cap ≤ maxLen) (hz : zs.length = cap) (hcell : ∀ i, i < zs.length → w.cell? (x.add i) = some (.int .i64 (zs.getD i 0))) (hwf : ∀ n ∈ zs, (Lit.int .i64 n).wf = true) :
  Ints w w.heap.size (.slice (some x) len cap) (zs.take len) := by
 have hl' : (zs.take len).length = len := by rw [List.length_take]; omega
 refine ⟨⟨by simp, some x, cap, by rw [hl'], by omega, hm, fun h0 => ?_⟩, fun y hy => ?_⟩
 ·have h1 := hcell 0 (by omega)
  have hsp : x.spot = none := by
   cases hs : x.spot with
   | none => rfl
   | some q =>
    simp only [Addr.add, if_pos, World.cell?] at h1
    split at h1
    ·simp [hs] at h1
    ·cases h1
  obtain ⟨b, off, sp⟩ := x
  simp only at hsp
  subst hsp
  have hb : b < w.heap.size := World.block_lt_of_cell? w ⟨b, off, none⟩ (u := .int .i64 (zs.getD 0 0)) (by simpa [Addr.add] using h1)
  refine ⟨b, off, rfl, ⟨hb, .inl hb⟩, fun j u hu => ?_⟩
  rw [List.getElem?_map] at hu
  obtain ⟨y, hy, rfl⟩ := Option.map_eq_some_iff.1 hu
  obtain ⟨hjl, hjy⟩ := List.getElem?_eq_some_iff.1 hy
  have hj : j < zs.length := by rw [List.length_take] at hjl; omega
  have := hcell j hj
  have e : zs.getD j 0 = y := by rw [← hjy, List.getElem_take]; simp [List.getD_eq_getElem?_getD, hj]
  rw [e] at this
  unfold Addr.add at this
  split at this
  ·next h => subst h; exact this
  ·exact this
 ·have := hwf y (List.mem_of_mem_take hy)
  simpa [I64, Lit.wf, IntKind.min, IntKind.max, IntKind.signed, IntKind.bits] using this
/-- 'Pick' -/
def pickZ (l : List Int) (i most : Int) : Int := if i < 0 ∨ (l.length : Int) ≤ i then 0 else around (l.getD i.toNat 0) most
theorem pick_bd (l : List Int) (i most : Int) (h : 1 ≤ most) : 0 ≤ pickZ l i most ∧ pickZ l i most < most := by
 unfold pickZ
 split
 ·omega
 ·exact around_bd _ _ h
set_option maxHeartbeats 400000 in
theorem pick_any (A : Option Addr) (n c base : Nat) (l : List Int) (i most : Int) (w : World) (h : Ints w base (.slice A n c) l) (h1 : 1 ≤ most) (h2 : most ≤ 9223372036854775807) :
  Calls Tryz.prog 54 #[.slice A n c, .int .i64 i, .int .i64 most] w fun e w' => e = .returned (.int .i64 (pickZ l i most)) ∧ w = w' := by
 obtain ⟨hn, hm⟩ := h.1.len
 by_cases h0 : i < 0
 ·have E : Hid (pickZ l i most = 0) := if_pos (.inl h0)
  clear h hn
  go_enter Tryz.func54, Tryz.ntmps54
  go_wp2
  go_ret
  exact ⟨ret_int (by rw [E.out]), rfl⟩
 by_cases h3 : (n : Int) ≤ i
 ·have E : Hid (pickZ l i most = 0) := if_pos (.inr (by omega))
  clear h hn
  go_enter Tryz.func54, Tryz.ntmps54
  go_wp2
  go_ret
  exact ⟨ret_int (by rw [E.out]), rfl⟩
 obtain ⟨k, rfl⟩ : ∃ k : Nat, i = (k : Int) := ⟨i.toNat, by omega⟩
 have hk : k < l.length := by omega
 have hk' : k < n := by omega
 have hx : l[k]? = some l[k] := List.getElem?_eq_getElem hk
 have E : Hid (pickZ l (k : Int) most = around l[k] most) := by
  unfold pickZ
  rw [Hid, if_neg (by omega)]
  simp [List.getD_eq_getElem?_getD, hx]
 obtain ⟨b, off, rfl, hb, hc⟩ := h.1.at1 k (.int .i64 l[k]) (by rw [List.getElem?_map, hx]; rfl)
 have hr := h.2 l[k] (List.getElem_mem hk)
 obtain ⟨hr1, hr2⟩ := hr
 generalize l[k] = z at *
 clear h hn hx
 go_enter Tryz.func54, Tryz.ntmps54
 go_wp2_with (go_at_call 18; refine (around_any _ _ _ hr1 hr2 h1 h2).mono ?_; rintro e w' ⟨rfl, rfl⟩)
 go_ret
 exact ⟨ret_int (by rw [E.out]), rfl⟩
theorem names_any (w : World) : Calls Tryz.prog 128 #[] w fun e w' => e = .returned (.slice (some ⟨w.heap.size, 0, none⟩) 6 6) ∧ w' = w.alloc (.cells #[.string ⟨#[97]⟩, .string ⟨#[97, 98]⟩, .string ⟨#[98]⟩, .string ⟨#[106, 111, 98]⟩, .string ⟨#[120, 95, 49]⟩, .string ⟨#[122, 111, 110, 101]⟩] 9) := by
 go_enter Tryz.func128, Tryz.ntmps128
 go_wp2
 go_ret
 exact ⟨rfl, rfl⟩
theorem values_any (w : World) : Calls Tryz.prog 144 #[] w fun e w' => e = .returned (.slice (some ⟨w.heap.size, 0, none⟩) 6 6) ∧ w' = w.alloc (.cells #[.string ⟨#[97]⟩, .string ⟨#[97, 98]⟩, .string ⟨#[98]⟩, .string ⟨#[120, 49]⟩, .string ⟨#[126, 33]⟩, .string ⟨#[48]⟩] 9) := by
 go_enter Tryz.func144, Tryz.ntmps144
 go_wp2
 go_ret
 exact ⟨rfl, rfl⟩
end
section
open Go.RowKit
def namesL : List ByteArray := [⟨#[97]⟩, ⟨#[97, 98]⟩, ⟨#[98]⟩, ⟨#[106, 111, 98]⟩, ⟨#[120, 95, 49]⟩, ⟨#[122, 111, 110, 101]⟩]
def valuesL : List ByteArray := [⟨#[97]⟩, ⟨#[97, 98]⟩, ⟨#[98]⟩, ⟨#[120, 49]⟩, ⟨#[126, 33]⟩, ⟨#[48]⟩]
def valuesL8 : List ByteArray := valuesL ++ [⟨#[]⟩, ⟨#[120]⟩]
theorem strInfo : (Tryz.prog.info? 9).map (fun i => (i.zero, i.size, i.bytes)) = some (some (.string ⟨#[]⟩), 1, 16) := by kernel_rfl
/-- a matcher made of the lists -/
def GoodMat (m : Mat) : Prop := m.1 ∈ namesL ∧ (0 ≤ m.2.1 ∧ m.2.1 < 3) ∧ m.2.2 ∈ valuesL8
theorem namesL_ok : ∀ x ∈ namesL, nameB x = true ∧ x.size ≤ 16 := by
 intro x hx
 simp [namesL] at hx
 rcases hx with rfl | rfl | rfl | rfl | rfl | rfl <;> exact ⟨by kernel_rfl, by decide⟩
theorem valuesL8_ok : ∀ x ∈ valuesL8, valueB x = true ∧ x.size ≤ 16 := by
 intro x hx
 simp [valuesL8, valuesL] at hx
 rcases hx with rfl | rfl | rfl | rfl | rfl | rfl | rfl | rfl <;> exact ⟨by kernel_rfl, by decide⟩
theorem good_ok {ms : List Mat} (hl : ms.length ≤ 1000) (h : ∀ m ∈ ms, GoodMat m) : MsOk ms := by
 refine ⟨hl, fun x hx => ?_⟩
 have a := (namesL_ok _ (h x hx).1).2
 have b := (valuesL8_ok _ (h x hx).2.2).2
 unfold maxLen; omega
theorem own_newAt {w : World} {k base : Nat} (cs : Array Value) (t : TypeId) (n : Nat) (xs : List Value) (h : w.heap.size = k) (hb : base ≤ k) (hs : cs.size = n) (hx : cs.toList = xs) (hn : n ≤ 1000) : (w.alloc (.cells cs t)).ownsRow base t 1 (.slice (some ⟨k, 0, none⟩) n n) n xs := by
 subst h hx
 exact ⟨by simp [hs], .inr ⟨_, _, cs, rfl, hb, heap_alloc_new w _, Nat.le_refl _, by unfold maxLen; omega, by omega, by rw [Nat.mul_one, ← hs]; exact List.take_of_length_le (by simp)⟩⟩
theorem cells2At {w : World} {k : Nat} (h : w.heap.size = k) (t : TypeId) (v0 v1 : Value) : ∀ j u, [v0, v1][j]? = some u → (w.alloc (.cells #[v0, v1] t)).cell? ((⟨k, 0, none⟩ : Addr).add j) = some u := by
 subst h
 intro j u hj
 match j, hj with
 | 0, hj => simp at hj; subst hj; simp [Addr.add]
 | 1, hj => simp at hj; subst hj; simp [Addr.add]
 | j + 2, hj => simp at hj
theorem fr_below {base : Nat} {T : List TypeId} {w w' : World} (f : Fr base T w w') (h : base ≤ w.heap.size) : Below base w w' := ⟨f.os, f.tape, f.output, f.size, fun k hk => f.block k (by omega) (.inl hk)⟩
theorem fit_cell {base t : Nat} {T : List TypeId} {w w' : World} {b o : Nat} {u : Value} (h : Fit w base t b) (f : Fr base T w w') (ht : t ∉ T) (hc : w.cell? ⟨b, o, none⟩ = some u) : w'.cell? ⟨b, o, none⟩ = some u := (World.cell?_of_block (a := ⟨b, o, none⟩) (h.keep f ht).2).trans hc
theorem Strs.keep {w w' : World} {base : Nat} {T : List TypeId} {v : Value} {l : List ByteArray} (h : Strs w base v l) (f : Fr base T w w') (ht : 9 ∉ T) : Strs w' base v l := Seq.keep h f ht
theorem cells3 (w : World) (t : TypeId) (v0 v1 v2 : Value) : ∀ j u, [v0, v1, v2][j]? = some u → (w.alloc (.cells #[v0, v1, v2] t)).cell? ((⟨w.heap.size, 0, none⟩ : Addr).add j) = some u := by
 intro j u hj
 match j, hj with
 | 0, hj => simp at hj; subst hj; simp [Addr.add]
 | 1, hj => simp at hj; subst hj; simp [Addr.add]
 | 2, hj => simp at hj; subst hj; simp [Addr.add]
 | j + 3, hj => simp at hj
theorem mat_one (m : Mat) : ∀ u ∈ matCells m, u.oneCell' = true := by
 intro u hu
 simp [matCells] at hu
 rcases hu with rfl | rfl | rfl <;> rfl
end
section
open Go.RowKit
end
section
open Go.RowKit FracM
abbrev bT : TypeId := 76
abbrev uT : TypeId := 5
/-- the builder in block b holds these bytes -/
def Bd (w : World) (b : Nat) (l : List UInt8) : Prop := Lib.IsBuilderF bT uT b b (Lib.byteCells l) w
/-- what a writer leaves: below the builder all stands, and above it what is no row of bytes -/
structure Kp (b : Nat) (w w' : World) : Prop where
 below : Below b w w'
 kept : Lib.OthersKept uT (some b) w w'
theorem Kp.refl (b : Nat) (w : World) : Kp b w w := ⟨Below.refl _ _, Lib.OthersKept.refl _ _ _⟩
theorem Kp.trans {b : Nat} {w w1 w2 : World} (h : Kp b w w1) (k : Kp b w1 w2) : Kp b w w2 := ⟨h.below.trans k.below, h.kept.trans k.kept⟩
theorem Kp.of_below {b : Nat} {w w' : World} (h : Below w.heap.size w w') (hb : b ≤ w.heap.size) : Kp b w w' :=
 ⟨h.mono hb, fun k o hk _ _ => by
  have hlt : k < w.heap.size := (Array.getElem?_eq_some_iff.1 hk).1
  exact (h.block k hlt).trans hk⟩
theorem Kp.alloc {b : Nat} {w w' : World} (h : Kp b w w') (hb : b ≤ w.heap.size) (o : Obj) : Kp b w (w'.alloc o) := h.trans (Kp.of_below (bel1 _ _) (Nat.le_trans hb h.below.size))
theorem Kp.blk {b g : Nat} {t : TypeId} {cs : Array Value} {w w' : World} (h : Kp b w w') (hg : Blk w g t cs) (hn : g ≠ b) (ht : t ≠ uT) : Blk w' g t cs :=
 h.kept g _ hg (fun e => hn (Option.some.inj e)) (fun c fz e => ht (by injection e))
theorem Bd.lt {w : World} {b : Nat} {l : List UInt8} (h : Bd w b l) : b < w.heap.size := by
 rcases h with h | h
 ·exact h.lt
 ·exact h.lt
theorem bdF_kept {w w' : World} {b : Nat} {p : Value} {bs : List Value} (h : Lib.BuilderAtF bT uT b b p bs w) (row : Option Nat) (hg : w.grownBy w' row) (h1 : row ≠ some b) (h2 : ∀ g, row = some g → ∃ cs t, w.heap[g]? = some (.cells cs t (0, 0)) ∧ t ≠ uT) : Lib.BuilderAtF bT uT b b p bs w' := by
 have hl := h.lt
 obtain ⟨hB, v, hb, hown, hne⟩ := h
 refine ⟨hB, v, ?_, hown.kept (row := row) hg ?_, hne⟩
 ·rw [hg.block b hl (fun e => h1 e.symm)]; exact hb
 ·rcases hown.2 with ⟨rfl, _⟩ | ⟨g, cap, cur, fz, rfl, _, hg', _⟩
  ·exact .inl rfl
  ·refine .inr fun e => ?_
   obtain ⟨cs, t, h3, h4⟩ := h2 g e.symm
   rw [hg'] at h3
   injection h3 with h3
   injection h3 with _ h3
   exact h4 h3.symm
theorem Bd.kept {w w' : World} {b : Nat} {l : List UInt8} (h : Bd w b l) (row : Option Nat) (hg : w.grownBy w' row) (h1 : row ≠ some b) (h2 : ∀ g, row = some g → ∃ cs t, w.heap[g]? = some (.cells cs t (0, 0)) ∧ t ≠ uT) : Bd w' b l := by
 rcases h with h | h
 ·exact .inl (bdF_kept h row hg h1 h2)
 ·exact .inr (bdF_kept h row hg h1 h2)
theorem Bd.below {w w' : World} {b : Nat} {l : List UInt8} (h : Bd w b l) (hb : Below w.heap.size w w') : Bd w' b l :=
 h.kept none ⟨hb.os, hb.tape, hb.output, hb.size, fun i hi _ => hb.block i hi⟩ (by simp) (by simp)
theorem Bd.alloc {w : World} {b : Nat} {l : List UInt8} (h : Bd w b l) (o : Obj) : Bd (w.alloc o) b l := h.below (bel1 _ _)
/-- a store into a block of another kind -/
theorem Bd.set {w : World} {b g o : Nat} {t : TypeId} {cs : Array Value} {l : List UInt8} (h : Bd w b l) (hg : Blk w g t cs) (ht : t ≠ uT) (hn : g ≠ b) (u : Value) : Bd (w.setCell ⟨g, o, none⟩ u) b l :=
 h.kept (some g) ⟨rfl, rfl, rfl, by simp [World.setCell], fun k _ hk => Below.heap_setCell _ _ _ _ (fun e => hk (by rw [e]))⟩ (fun e => hn (Option.some.inj e)) (fun x hx => ⟨cs, t, by obtain rfl := Option.some.inj hx; exact hg, ht⟩)
theorem bdT_ne : bT ≠ uT := by decide
theorem bd_new (w : World) : Bd (w.alloc (.cells #[.pointer none, .slice none 0 0] bT)) w.heap.size [] :=
 .inl ⟨Nat.le_refl _, .slice none 0 0, heap_alloc_new w _, World.ownsRowF_nil _ _ _ _, by simp [Value.ownBlock]⟩
theorem byteInfo : (Tryz.prog.info? uT).map (fun i => (i.zero, i.size, i.bytes)) = some (some (.int .u8 0), 1, 1) := by kernel_rfl
theorem byteCells_app (a c : List UInt8) : Lib.byteCells (a ++ c) = Lib.byteCells a ++ Lib.byteCells c := by simp [Lib.byteCells]
set_option maxHeartbeats 1000000 in
set_option maxRecDepth 100000 in
theorem bcopy_used (b : Nat) (w : World) (h0 : w.cell? ⟨b, 0, none⟩ = some (.pointer (some ⟨b, 0, none⟩))) :
  Calls Tryz.prog 120 #[.pointer (some ⟨b, 0, none⟩)] w fun e w' => e = .returned (.tuple #[]) ∧ w' = w := by
 obtain ⟨j, hj, _⟩ := Option.map_eq_some_iff.1 (show (Tryz.prog.info? bT).map (·.size) = some 2 by kernel_rfl)
 go_enter Tryz.func120, Tryz.ntmps120
 go_wp2_with fail
 rw [Lib.run_neq_ptr_same w _ Tryz.underlying74 hj]
 go_wp2_with fail
 go_end0
 exact ⟨rfl, rfl⟩
set_option maxHeartbeats 1000000 in
set_option maxRecDepth 100000 in
theorem bcopy_fresh (b : Nat) (w : World) (h0 : w.cell? ⟨b, 0, none⟩ = some (.pointer none)) (hsh : w.shape? b = some (bT, 2)) (hfz : w.frozen? ⟨b, 0, none⟩ = false) :
  Calls Tryz.prog 120 #[.pointer (some ⟨b, 0, none⟩)] w fun e w' => e = .returned (.tuple #[]) ∧ w' = w.setCell ⟨b, 0, none⟩ (.pointer (some ⟨b, 0, none⟩)) := by
 obtain ⟨j, hj, hjs⟩ := Option.map_eq_some_iff.1 (show (Tryz.prog.info? bT).map (·.size) = some 2 by kernel_rfl)
 have hl : liesAt Tryz.prog Tryz.prog.depth bT (2 / Tryz.prog.cellsOf bT) 0 bT 1 = true := by kernel_rfl
 go_enter Tryz.func120, Tryz.ntmps120
 go_wp2_with fail
 rw [Lib.run_to_unsafe w ⟨b, 0, none⟩ Tryz.underlying74 Tryz.underlying139 hj (by rw [hjs]; decide) hsh (Nat.zero_lt_succ 1)]
 simp only [Result.andThen]
 rw [Oper.upon_value]
 go_wp2_with fail
 rw [run_callFunc_extern Tryz.func137 (by kernel_rfl) (by kernel_rfl) (by kernel_rfl) (e := Extern.AbiNoEscape.same) (by kernel_rfl)]
 rw [Lib.run_noEscape]
 simp only [Result.andThen]
 rw [Oper.upon_value]
 go_wp2_with fail
 rw [Lib.run_from_unsafe w ⟨b, 0, none⟩ Tryz.underlying139 Tryz.underlying74 hj hsh hl]
 simp only [Result.andThen]
 rw [Oper.upon_value]
 go_wp2_with fail
 go_end0
 exact ⟨rfl, rfl⟩
def RetBd (b : Nat) (l : List UInt8) (v : Value) (w : World) (e : Ending) (w' : World) : Prop := e = .returned v ∧ Bd w' b l ∧ Kp b w w'
theorem bcopy_any (b : Nat) (bs : List Value) (w : World) (h : Lib.IsBuilderF bT uT b b bs w) :
  Calls Tryz.prog 120 #[.pointer (some ⟨b, 0, none⟩)] w fun e w' => e = .returned (.tuple #[]) ∧ (Lib.BuilderAtF bT uT b b (.pointer (some ⟨b, 0, none⟩)) bs w' ∧ Below b w w' ∧ Lib.OthersKept uT (some b) w w') := by
 rcases h with h | h
 ·refine (bcopy_fresh b w h.cell0 h.shape h.frozen0).mono ?_
  rintro e w' ⟨rfl, rfl⟩
  exact ⟨rfl, h.used _, (Below.refl b w).setCell (p := ⟨b, 0, none⟩) h.1 _, (Lib.OthersKept.refl _ _ w).setCell ⟨b, 0, none⟩ rfl _⟩
 ·refine (bcopy_used b w h.cell0).mono ?_
  rintro e w' ⟨rfl, rfl⟩
  exact ⟨rfl, h, Below.refl b _, Lib.OthersKept.refl _ _ _⟩
set_option maxHeartbeats 2000000 in
set_option maxRecDepth 100000 in
theorem bbyte_any (b : Nat) (l : List UInt8) (c : Int) (x : UInt8) (w : World) (h : Bd w b l) (hc : c = x.toNat) (hlen : l.length + 1 ≤ 140737488355328) :
  Calls Tryz.prog 118 #[.pointer (some ⟨b, 0, none⟩), .int .u8 c] w (RetBd b (l ++ [x]) .nilIface w) := by
 subst hc
 obtain ⟨i0, hi, hz0, hz1, hz2⟩ := info_parts byteInfo
 have hlb : (Lib.byteCells l).length + 1 ≤ 140737488355328 := by simpa [Lib.byteCells] using hlen
 have hbw := h.lt
 have e120 : ∀ args w, (callFunc 120 args).run Tryz.prog w = .ok (.enter 120 args) w := enters_of Tryz.func120 (by kernel_rfl) rfl
 go_enter Tryz.func118, Tryz.ntmps118
 go_wp2_with fail
 refine (bcopy_any b (Lib.byteCells l) _ h).mono ?_
 rintro e w1 ⟨rfl, h1, hb1, hk1⟩
 obtain ⟨hB, v, hbk, hown, hne⟩ := h1
 have c0 : w1.cell? ⟨b, 0, none⟩ = some (.pointer (some ⟨b, 0, none⟩)) := by rw [Lib.cell_of_heap hbk]; rfl
 have c1 : w1.cell? ⟨b, 1, none⟩ = some v := by rw [Lib.cell_of_heap hbk]; rfl
 go_wp2_with (at_builtin; refine wpList_append_ownF _ rfl _ _ 67 rfl b uT i0 (.int .u8 0) 1 1 Tryz.underlying67 hi hz0 hz1 hz2 rfl (by decide) _ _ _ rfl (hown.alloc _) ⟨w1.heap.size, 0, none⟩ 1 1 [.int .u8 (x.toNat : Int)] rfl rfl ?c1 ?c2 ?c3 ?c4 ?c5 ?_)
 case c1 =>
  intro j u hj
  match j, hj with
  | 0, hj => simp at hj; subst hj; simp [Addr.add]
 case c2 => intro u hu; simp at hu; subst hu; rfl
 case c3 => unfold maxLen; omega
 case c4 => omega
 case c5 => have := hb1.size; simp; omega
 intro v' w2 hown' hgrow _
 have hlt : b < w1.heap.size := by
  rcases Nat.lt_or_ge b w1.heap.size with h' | h'
  ·exact h'
  ·simp [Array.getElem?_eq_none h'] at hbk
 have hb2 : w2.heap[b]? = some (.cells #[.pointer (some ⟨b, 0, none⟩), v] bT (0, 0)) := by
  rw [hgrow.block b (by simp; omega) (fun e => hne e.symm), Lib.alloc_old w1 _ b hlt]
  exact hbk
 have d0 : w2.cell? ⟨b, 0, none⟩ = some (.pointer (some ⟨b, 0, none⟩)) := by rw [Lib.cell_of_heap hb2]; rfl
 have d1 : w2.cell? ⟨b, 1, none⟩ = some v := by rw [Lib.cell_of_heap hb2]; rfl
 have f1 : w2.frozen? ⟨b, 1, none⟩ = false := Lib.frozen_of_heap hb2 1
 obtain ⟨g, cap, rfl⟩ : ∃ g cap, v' = .slice (some ⟨g, 0, none⟩) ((Lib.byteCells l).length + 1) cap := by
  rcases hown'.2 with ⟨_, h0⟩ | ⟨g, cap, cur, fz, hv, _⟩
  ·omega
  ·exact ⟨g, cap, hv⟩
 go_wp2_with fail
 go_ret
 refine ⟨rfl, .inr ?_, ?_, ((hk1.alloc _).grown hgrow (Lib.ownsRowF_kind (hown.alloc _))).setCell ⟨b, 1, none⟩ rfl _⟩
 ·exact Lib.BuilderAtF.put (T := bT) (e := uT) hB hb2 (bs' := Lib.byteCells (l ++ [x])) (by simpa [Lib.byteCells] using hown') bdT_ne
 ·exact ((hb1.alloc (by have := hb1.size; omega) _).grown hgrow (by have := hb1.size; simp; omega) (fun k hk => (hown.lt k hk).1)).setCell (p := ⟨b, 1, none⟩) hB _
set_option maxHeartbeats 2000000 in
set_option maxRecDepth 100000 in
theorem bstr_any (b : Nat) (l : List UInt8) (s : ByteArray) (w : World) (h : Bd w b l) (hlen : l.length + s.size ≤ 140737488355328) :
  Calls Tryz.prog 90 #[.pointer (some ⟨b, 0, none⟩), .string s] w (RetBd b (l ++ s.data.toList) (.tuple #[.int .i64 s.size, .nilIface]) w) := by
 obtain ⟨i0, hi, hz0, hz1, hz2⟩ := info_parts byteInfo
 have hlb : (Lib.byteCells l).length + s.size ≤ 140737488355328 := by simpa [Lib.byteCells] using hlen
 have hbw := h.lt
 have e120 : ∀ args w, (callFunc 120 args).run Tryz.prog w = .ok (.enter 120 args) w := enters_of Tryz.func120 (by kernel_rfl) rfl
 go_enter Tryz.func90, Tryz.ntmps90
 go_wp2_with fail
 refine (bcopy_any b (Lib.byteCells l) _ h).mono ?_
 rintro e w1 ⟨rfl, h1, hb1, hk1⟩
 obtain ⟨hB, v, hbk, hown, hne⟩ := h1
 have c0 : w1.cell? ⟨b, 0, none⟩ = some (.pointer (some ⟨b, 0, none⟩)) := by rw [Lib.cell_of_heap hbk]; rfl
 have c1 : w1.cell? ⟨b, 1, none⟩ = some v := by rw [Lib.cell_of_heap hbk]; rfl
 go_wp2_with (at_builtin; refine Lib.wpList_append_own_stringF _ rfl _ _ 67 9 rfl b uT i0 Tryz.underlying67 Tryz.underlying9 hi hz0 hz1 hz2 _ _ _ rfl hown s rfl ?c3 ?c4 ?c5 ?_)
 case c3 => unfold maxLen; omega
 case c4 => omega
 case c5 => have := hb1.size; omega
 intro v' w2 hown' hgrow _
 have hlt : b < w1.heap.size := by
  rcases Nat.lt_or_ge b w1.heap.size with h' | h'
  ·exact h'
  ·simp [Array.getElem?_eq_none h'] at hbk
 have hb2 : w2.heap[b]? = some (.cells #[.pointer (some ⟨b, 0, none⟩), v] bT (0, 0)) := by
  rw [hgrow.block b hlt (fun e => hne e.symm)]
  exact hbk
 have d0 : w2.cell? ⟨b, 0, none⟩ = some (.pointer (some ⟨b, 0, none⟩)) := by rw [Lib.cell_of_heap hb2]; rfl
 have d1 : w2.cell? ⟨b, 1, none⟩ = some v := by rw [Lib.cell_of_heap hb2]; rfl
 have f1 : w2.frozen? ⟨b, 1, none⟩ = false := Lib.frozen_of_heap hb2 1
 obtain ⟨ao, n', cap, rfl⟩ : ∃ ao n' cap, v' = .slice ao n' cap := by
  rcases hown'.2 with ⟨hv, _⟩ | ⟨g, cap, cur, fz, hv, _⟩
  ·exact ⟨_, _, _, hv⟩
  ·exact ⟨_, _, _, hv⟩
 go_wp2_with fail
 go_ret2
 refine ⟨rfl, .inr ?_, ?_, (hk1.grown hgrow (Lib.ownsRowF_kind hown)).setCell ⟨b, 1, none⟩ rfl _⟩
 ·exact Lib.BuilderAtF.put (T := bT) (e := uT) hB hb2 (bs' := Lib.byteCells (l ++ s.data.toList)) (by rw [byteCells_app, List.length_append]; simpa [Lib.strCells_length, Lib.strCells, Lib.byteCells] using hown') bdT_ne
 ·exact (hb1.grown hgrow (by have := hb1.size; omega) (fun k hk => (hown.lt k hk).1)).setCell (p := ⟨b, 1, none⟩) hB _
end
end Go.Proofs.YthoibeajhdhdhaaGreatDoor
