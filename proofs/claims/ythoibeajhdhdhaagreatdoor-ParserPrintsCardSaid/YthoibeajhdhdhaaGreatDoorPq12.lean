/- Contracts, packed: Jb Km Qh Yg. -/
import Derived.Test.YthoibeajhdhdhaaGreatDoorPq6
import Derived.Test.YthoibeajhdhdhaaGreatDoorPq8
import Derived.Test.YthoibeajhdhdhaaGreatDoorPq11
import Derived.Shelf.Strings.BuilderK
import Derived.Lib.FrozenHead2
import Derived.IntWalk
import Derived.Maps.AppendAt
import Derived.OwnWalk
import Derived.Laws.OwnMore
set_option linter.unusedVariables false
set_option linter.unusedSimpArgs false
namespace Go.Proofs.YthoibeajhdhdhaaGreatDoor
section
open Go.RowKit FracM

abbrev bT : TypeId := 76
abbrev uT : TypeId := 5
/-- the builder in block b holds these bytes -/
def Bd (w : World) (b : Nat) (l : List UInt8) : Prop := Lib.IsBuilderF bT uT b b (Lib.byteCells l) w
/-- what a writer leaves: below the builder all stands, and above it what is no row of bytes -/
structure Kp (b : Nat) (w w' : World) : Prop where
  below : Below b w w'
  kept : Lib.OthersKept uT (some b) w w'
theorem Kp.refl (b : Nat) (w : World) : Kp b w w := ⟨Below.refl _ _, Lib.OthersKept.refl _ _ _⟩
theorem Kp.trans {b : Nat} {w w1 w2 : World} (h : Kp b w w1) (k : Kp b w1 w2) : Kp b w w2 := ⟨h.below.trans k.below, h.kept.trans k.kept⟩
theorem Kp.of_below {b : Nat} {w w' : World} (h : Below w.heap.size w w') (hb : b ≤ w.heap.size) : Kp b w w' :=
  ⟨h.mono hb, fun k o hk _ _ => by
    have hlt : k < w.heap.size := (Array.getElem?_eq_some_iff.1 hk).1
    exact (h.block k hlt).trans hk⟩
theorem Kp.alloc {b : Nat} {w w' : World} (h : Kp b w w') (hb : b ≤ w.heap.size) (o : Obj) : Kp b w (w'.alloc o) := h.trans (Kp.of_below (bel1 _ _) (Nat.le_trans hb h.below.size))
theorem Kp.blk {b g : Nat} {t : TypeId} {cs : Array Value} {w w' : World} (h : Kp b w w') (hg : Blk w g t cs) (hn : g ≠ b) (ht : t ≠ uT) : Blk w' g t cs :=
  h.kept g _ hg (fun e => hn (Option.some.inj e)) (fun c fz e => ht (by injection e))
theorem Bd.lt {w : World} {b : Nat} {l : List UInt8} (h : Bd w b l) : b < w.heap.size := by
  rcases h with h | h
  · exact h.lt
  · exact h.lt
theorem bdF_kept {w w' : World} {b : Nat} {p : Value} {bs : List Value} (h : Lib.BuilderAtF bT uT b b p bs w) (row : Option Nat) (hg : w.grownBy w' row) (h1 : row ≠ some b) (h2 : ∀ g, row = some g → ∃ cs t, w.heap[g]? = some (.cells cs t (0, 0)) ∧ t ≠ uT) : Lib.BuilderAtF bT uT b b p bs w' := by
  have hl := h.lt
  obtain ⟨hB, v, hb, hown, hne⟩ := h
  refine ⟨hB, v, ?_, hown.kept (row := row) hg ?_, hne⟩
  · rw [hg.block b hl (fun e => h1 e.symm)]; exact hb
  · rcases hown.2 with ⟨rfl, _⟩ | ⟨g, cap, cur, fz, rfl, _, hg', _⟩
    · exact .inl rfl
    · refine .inr fun e => ?_
      obtain ⟨cs, t, h3, h4⟩ := h2 g e.symm
      rw [hg'] at h3
      injection h3 with h3
      injection h3 with _ h3
      exact h4 h3.symm
theorem Bd.kept {w w' : World} {b : Nat} {l : List UInt8} (h : Bd w b l) (row : Option Nat) (hg : w.grownBy w' row) (h1 : row ≠ some b) (h2 : ∀ g, row = some g → ∃ cs t, w.heap[g]? = some (.cells cs t (0, 0)) ∧ t ≠ uT) : Bd w' b l := by
  rcases h with h | h
  · exact .inl (bdF_kept h row hg h1 h2)
  · exact .inr (bdF_kept h row hg h1 h2)
theorem Bd.below {w w' : World} {b : Nat} {l : List UInt8} (h : Bd w b l) (hb : Below w.heap.size w w') : Bd w' b l :=
  h.kept none ⟨hb.os, hb.tape, hb.output, hb.size, fun i hi _ => hb.block i hi⟩ (by simp) (by simp)
theorem Bd.alloc {w : World} {b : Nat} {l : List UInt8} (h : Bd w b l) (o : Obj) : Bd (w.alloc o) b l := h.below (bel1 _ _)
/-- a store into a block of another kind -/
theorem Bd.set {w : World} {b g o : Nat} {t : TypeId} {cs : Array Value} {l : List UInt8} (h : Bd w b l) (hg : Blk w g t cs) (ht : t ≠ uT) (hn : g ≠ b) (u : Value) : Bd (w.setCell ⟨g, o, none⟩ u) b l :=
  h.kept (some g) ⟨rfl, rfl, rfl, by simp [World.setCell], fun k _ hk => Below.heap_setCell _ _ _ _ (fun e => hk (by rw [e]))⟩ (fun e => hn (Option.some.inj e)) (fun x hx => ⟨cs, t, by obtain rfl := Option.some.inj hx; exact hg, ht⟩)
theorem bdT_ne : bT ≠ uT := by decide
theorem bd_new (w : World) : Bd (w.alloc (.cells #[.pointer none, .slice none 0 0] bT)) w.heap.size [] :=
  .inl ⟨Nat.le_refl _, .slice none 0 0, heap_alloc_new w _, World.ownsRowF_nil _ _ _ _, by simp [Value.ownBlock]⟩
theorem byteInfo : (Tryz.prog.info? uT).map (fun i => (i.zero, i.size, i.bytes)) = some (some (.int .u8 0), 1, 1) := by kernel_rfl
theorem byteCells_app (a c : List UInt8) : Lib.byteCells (a ++ c) = Lib.byteCells a ++ Lib.byteCells c := by simp [Lib.byteCells]
set_option maxHeartbeats 1000000 in
set_option maxRecDepth 100000 in
theorem bcopy_used (b : Nat) (w : World) (h0 : w.cell? ⟨b, 0, none⟩ = some (.pointer (some ⟨b, 0, none⟩))) :
    Calls Tryz.prog 120 #[.pointer (some ⟨b, 0, none⟩)] w fun e w' => e = .returned (.tuple #[]) ∧ w' = w := by
  obtain ⟨j, hj, _⟩ := Option.map_eq_some_iff.1 (show (Tryz.prog.info? bT).map (·.size) = some 2 by kernel_rfl)
  go_enter Tryz.func120, Tryz.ntmps120
  go_wp2_with fail
  rw [Lib.run_neq_ptr_same w _ Tryz.underlying74 hj]
  go_wp2_with fail
  go_end0
  exact ⟨rfl, rfl⟩
set_option maxHeartbeats 1000000 in
set_option maxRecDepth 100000 in
theorem bcopy_fresh (b : Nat) (w : World) (h0 : w.cell? ⟨b, 0, none⟩ = some (.pointer none)) (hsh : w.shape? b = some (bT, 2)) (hfz : w.frozen? ⟨b, 0, none⟩ = false) :
    Calls Tryz.prog 120 #[.pointer (some ⟨b, 0, none⟩)] w fun e w' => e = .returned (.tuple #[]) ∧ w' = w.setCell ⟨b, 0, none⟩ (.pointer (some ⟨b, 0, none⟩)) := by
  obtain ⟨j, hj, hjs⟩ := Option.map_eq_some_iff.1 (show (Tryz.prog.info? bT).map (·.size) = some 2 by kernel_rfl)
  have hl : liesAt Tryz.prog Tryz.prog.depth bT (2 / Tryz.prog.cellsOf bT) 0 bT 1 = true := by kernel_rfl
  go_enter Tryz.func120, Tryz.ntmps120
  go_wp2_with fail
  rw [Lib.run_to_unsafe w ⟨b, 0, none⟩ Tryz.underlying74 Tryz.underlying139 hj (by rw [hjs]; decide) hsh (Nat.zero_lt_succ 1)]
  simp only [Result.andThen]
  rw [Oper.upon_value]
  go_wp2_with fail
  rw [run_callFunc_extern Tryz.func137 (by kernel_rfl) (by kernel_rfl) (by kernel_rfl) (e := Extern.AbiNoEscape.same) (by kernel_rfl)]
  rw [Lib.run_noEscape]
  simp only [Result.andThen]
  rw [Oper.upon_value]
  go_wp2_with fail
  rw [Lib.run_from_unsafe w ⟨b, 0, none⟩ Tryz.underlying139 Tryz.underlying74 hj hsh hl]
  simp only [Result.andThen]
  rw [Oper.upon_value]
  go_wp2_with fail
  go_end0
  exact ⟨rfl, rfl⟩
def RetBd (b : Nat) (l : List UInt8) (v : Value) (w : World) (e : Ending) (w' : World) : Prop := e = .returned v ∧ Bd w' b l ∧ Kp b w w'
theorem bcopy_any (b : Nat) (bs : List Value) (w : World) (h : Lib.IsBuilderF bT uT b b bs w) :
    Calls Tryz.prog 120 #[.pointer (some ⟨b, 0, none⟩)] w fun e w' => e = .returned (.tuple #[]) ∧ (Lib.BuilderAtF bT uT b b (.pointer (some ⟨b, 0, none⟩)) bs w' ∧ Below b w w' ∧ Lib.OthersKept uT (some b) w w') := by
  rcases h with h | h
  · refine (bcopy_fresh b w h.cell0 h.shape h.frozen0).mono ?_
    rintro e w' ⟨rfl, rfl⟩
    exact ⟨rfl, h.used _, (Below.refl b w).setCell (p := ⟨b, 0, none⟩) h.1 _, (Lib.OthersKept.refl _ _ w).setCell ⟨b, 0, none⟩ rfl _⟩
  · refine (bcopy_used b w h.cell0).mono ?_
    rintro e w' ⟨rfl, rfl⟩
    exact ⟨rfl, h, Below.refl b _, Lib.OthersKept.refl _ _ _⟩
set_option maxHeartbeats 2000000 in
set_option maxRecDepth 100000 in
theorem bbyte_any (b : Nat) (l : List UInt8) (c : Int) (x : UInt8) (w : World) (h : Bd w b l) (hc : c = x.toNat) (hlen : l.length + 1 ≤ 140737488355328) :
    Calls Tryz.prog 118 #[.pointer (some ⟨b, 0, none⟩), .int .u8 c] w (RetBd b (l ++ [x]) .nilIface w) := by
  subst hc
  obtain ⟨i0, hi, hz0, hz1, hz2⟩ := info_parts byteInfo
  have hlb : (Lib.byteCells l).length + 1 ≤ 140737488355328 := by simpa [Lib.byteCells] using hlen
  have hbw := h.lt
  have e120 : ∀ args w, (callFunc 120 args).run Tryz.prog w = .ok (.enter 120 args) w := enters_of Tryz.func120 (by kernel_rfl) rfl
  go_enter Tryz.func118, Tryz.ntmps118
  go_wp2_with fail
  refine (bcopy_any b (Lib.byteCells l) _ h).mono ?_
  rintro e w1 ⟨rfl, h1, hb1, hk1⟩
  obtain ⟨hB, v, hbk, hown, hne⟩ := h1
  have c0 : w1.cell? ⟨b, 0, none⟩ = some (.pointer (some ⟨b, 0, none⟩)) := by rw [Lib.cell_of_heap hbk]; rfl
  have c1 : w1.cell? ⟨b, 1, none⟩ = some v := by rw [Lib.cell_of_heap hbk]; rfl
  go_wp2_with (at_builtin; refine wpList_append_ownF _ rfl _ _ 67 rfl b uT i0 (.int .u8 0) 1 1 Tryz.underlying67 hi hz0 hz1 hz2 rfl (by decide) _ _ _ rfl (hown.alloc _) ⟨w1.heap.size, 0, none⟩ 1 1 [.int .u8 (x.toNat : Int)] rfl rfl ?c1 ?c2 ?c3 ?c4 ?c5 ?_)
  case c1 =>
    intro j u hj
    match j, hj with
    | 0, hj => simp at hj; subst hj; simp [Addr.add]
  case c2 => intro u hu; simp at hu; subst hu; rfl
  case c3 => unfold maxLen; omega
  case c4 => omega
  case c5 => have := hb1.size; simp; omega
  intro v' w2 hown' hgrow _
  have hlt : b < w1.heap.size := by
    rcases Nat.lt_or_ge b w1.heap.size with h' | h'
    · exact h'
    · simp [Array.getElem?_eq_none h'] at hbk
  have hb2 : w2.heap[b]? = some (.cells #[.pointer (some ⟨b, 0, none⟩), v] bT (0, 0)) := by
    rw [hgrow.block b (by simp; omega) (fun e => hne e.symm), Lib.alloc_old w1 _ b hlt]
    exact hbk
  have d0 : w2.cell? ⟨b, 0, none⟩ = some (.pointer (some ⟨b, 0, none⟩)) := by rw [Lib.cell_of_heap hb2]; rfl
  have d1 : w2.cell? ⟨b, 1, none⟩ = some v := by rw [Lib.cell_of_heap hb2]; rfl
  have f1 : w2.frozen? ⟨b, 1, none⟩ = false := Lib.frozen_of_heap hb2 1
  obtain ⟨g, cap, rfl⟩ : ∃ g cap, v' = .slice (some ⟨g, 0, none⟩) ((Lib.byteCells l).length + 1) cap := by
    rcases hown'.2 with ⟨_, h0⟩ | ⟨g, cap, cur, fz, hv, _⟩
    · omega
    · exact ⟨g, cap, hv⟩
  go_wp2_with fail
  go_ret
  refine ⟨rfl, .inr ?_, ?_, ((hk1.alloc _).grown hgrow (Lib.ownsRowF_kind (hown.alloc _))).setCell ⟨b, 1, none⟩ rfl _⟩
  · exact Lib.BuilderAtF.put (T := bT) (e := uT) hB hb2 (bs' := Lib.byteCells (l ++ [x])) (by simpa [Lib.byteCells] using hown') bdT_ne
  · exact ((hb1.alloc (by have := hb1.size; omega) _).grown hgrow (by have := hb1.size; simp; omega) (fun k hk => (hown.lt k hk).1)).setCell (p := ⟨b, 1, none⟩) hB _
set_option maxHeartbeats 2000000 in
set_option maxRecDepth 100000 in
theorem bstr_any (b : Nat) (l : List UInt8) (s : ByteArray) (w : World) (h : Bd w b l) (hlen : l.length + s.size ≤ 140737488355328) :
    Calls Tryz.prog 90 #[.pointer (some ⟨b, 0, none⟩), .string s] w (RetBd b (l ++ s.data.toList) (.tuple #[.int .i64 s.size, .nilIface]) w) := by
  obtain ⟨i0, hi, hz0, hz1, hz2⟩ := info_parts byteInfo
  have hlb : (Lib.byteCells l).length + s.size ≤ 140737488355328 := by simpa [Lib.byteCells] using hlen
  have hbw := h.lt
  have e120 : ∀ args w, (callFunc 120 args).run Tryz.prog w = .ok (.enter 120 args) w := enters_of Tryz.func120 (by kernel_rfl) rfl
  go_enter Tryz.func90, Tryz.ntmps90
  go_wp2_with fail
  refine (bcopy_any b (Lib.byteCells l) _ h).mono ?_
  rintro e w1 ⟨rfl, h1, hb1, hk1⟩
  obtain ⟨hB, v, hbk, hown, hne⟩ := h1
  have c0 : w1.cell? ⟨b, 0, none⟩ = some (.pointer (some ⟨b, 0, none⟩)) := by rw [Lib.cell_of_heap hbk]; rfl
  have c1 : w1.cell? ⟨b, 1, none⟩ = some v := by rw [Lib.cell_of_heap hbk]; rfl
  go_wp2_with (at_builtin; refine Lib.wpList_append_own_stringF _ rfl _ _ 67 9 rfl b uT i0 Tryz.underlying67 Tryz.underlying9 hi hz0 hz1 hz2 _ _ _ rfl hown s rfl ?c3 ?c4 ?c5 ?_)
  case c3 => unfold maxLen; omega
  case c4 => omega
  case c5 => have := hb1.size; omega
  intro v' w2 hown' hgrow _
  have hlt : b < w1.heap.size := by
    rcases Nat.lt_or_ge b w1.heap.size with h' | h'
    · exact h'
    · simp [Array.getElem?_eq_none h'] at hbk
  have hb2 : w2.heap[b]? = some (.cells #[.pointer (some ⟨b, 0, none⟩), v] bT (0, 0)) := by
    rw [hgrow.block b hlt (fun e => hne e.symm)]
    exact hbk
  have d0 : w2.cell? ⟨b, 0, none⟩ = some (.pointer (some ⟨b, 0, none⟩)) := by rw [Lib.cell_of_heap hb2]; rfl
  have d1 : w2.cell? ⟨b, 1, none⟩ = some v := by rw [Lib.cell_of_heap hb2]; rfl
  have f1 : w2.frozen? ⟨b, 1, none⟩ = false := Lib.frozen_of_heap hb2 1
  obtain ⟨ao, n', cap, rfl⟩ : ∃ ao n' cap, v' = .slice ao n' cap := by
    rcases hown'.2 with ⟨hv, _⟩ | ⟨g, cap, cur, fz, hv, _⟩
    · exact ⟨_, _, _, hv⟩
    · exact ⟨_, _, _, hv⟩
  go_wp2_with fail
  go_ret2
  refine ⟨rfl, .inr ?_, ?_, (hk1.grown hgrow (Lib.ownsRowF_kind hown)).setCell ⟨b, 1, none⟩ rfl _⟩
  · exact Lib.BuilderAtF.put (T := bT) (e := uT) hB hb2 (bs' := Lib.byteCells (l ++ s.data.toList)) (by rw [byteCells_app, List.length_append]; simpa [Lib.strCells_length, Lib.strCells, Lib.byteCells] using hown') bdT_ne
  · exact (hb1.grown hgrow (by have := hb1.size; omega) (fun k hk => (hown.lt k hk).1)).setCell (p := ⟨b, 1, none⟩) hB _
end
section
open Go.RowKit FracM

theorem andR_ok {α β : Type} {r : Res α} {f : α → List Tok → Res β} {p : β × List Tok} (h : andR r f = .ok p) : ∃ a ts, r = .ok (a, ts) ∧ f a ts = .ok p := by
  unfold andR at h
  cases r with
  | error e => cases h
  | ok q => obtain ⟨a, ts⟩ := q; exact ⟨a, ts, rfl, h⟩
theorem isT_len {ts : List Tok} {k : Int} {x : List UInt8} (h : isT ts k x = true) : ts.tail.length < ts.length := by
  cases ts with
  | nil => simp [isT] at h
  | cons t r => simp
theorem kindT_len {ts : List Tok} {k : Int} (h : kindT ts k = true) : ts.tail.length < ts.length := by
  cases ts with
  | nil => simp [kindT] at h
  | cons t r => simp
theorem tail_len (ts : List Tok) : ts.tail.length ≤ ts.length := by simp
/-- what is left is shorter -/
def Sho {α : Type} (r : Res α) (ts : List Tok) : Prop := ∀ a u, r = .ok (a, u) → u.length < ts.length
def Shl {α : Type} (r : Res α) (ts : List Tok) : Prop := ∀ a u, r = .ok (a, u) → u.length ≤ ts.length
theorem Sho.le {α : Type} {r : Res α} {ts : List Tok} (h : Sho r ts) : Shl r ts := fun a u e => Nat.le_of_lt (h a u e)
theorem Sho_bad {α : Type} {en e : Int} {ts us : List Tok} : Sho (bad en us e : Res α) ts := fun a u h => by unfold Go.Proofs.YthoibeajhdhdhaaGreatDoor.bad at h; cases h
theorem Sho.ok {α : Type} {a : α} {u ts : List Tok} (h : u.length < ts.length) : Sho (.ok (a, u)) ts := fun b v e => by cases e; exact h
theorem Shl.ok {α : Type} {a : α} {u ts : List Tok} (h : u.length ≤ ts.length) : Shl (.ok (a, u)) ts := fun b v e => by cases e; exact h
theorem Sho.and {α β : Type} {r : Res α} {f : α → List Tok → Res β} {ts : List Tok} (h : Sho r ts) (k : ∀ a u, r = .ok (a, u) → Shl (f a u) u) : Sho (andR r f) ts := fun b v e => by
  obtain ⟨a, u, h1, h2⟩ := andR_ok e
  exact Nat.lt_of_le_of_lt (k a u h1 _ _ h2) (h _ _ h1)
theorem Shl.andO {α β : Type} {r : Res α} {f : α → List Tok → Res β} {ts : List Tok} (h : Shl r ts) (k : ∀ a u, r = .ok (a, u) → Sho (f a u) u) : Sho (andR r f) ts := fun b v e => by
  obtain ⟨a, u, h1, h2⟩ := andR_ok e
  exact Nat.lt_of_lt_of_le (k a u h1 _ _ h2) (h _ _ h1)
theorem Shl.and {α β : Type} {r : Res α} {f : α → List Tok → Res β} {ts : List Tok} (h : Shl r ts) (k : ∀ a u, r = .ok (a, u) → Shl (f a u) u) : Shl (andR r f) ts := fun b v e => by
  obtain ⟨a, u, h1, h2⟩ := andR_ok e
  exact Nat.le_trans (k a u h1 _ _ h2) (h _ _ h1)
theorem Sho.from {α : Type} {r : Res α} {ts us : List Tok} (h : Sho r ts) (k : ts.length ≤ us.length) : Sho r us := fun a u e => Nat.lt_of_lt_of_le (h a u e) k
theorem Shl.from {α : Type} {r : Res α} {ts us : List Tok} (h : Shl r ts) (k : ts.length ≤ us.length) : Shl r us := fun a u e => Nat.le_trans (h a u e) k
theorem Shl.fromO {α : Type} {r : Res α} {ts us : List Tok} (h : Shl r ts) (k : ts.length < us.length) : Sho r us := fun a u e => Nat.lt_of_le_of_lt (h a u e) k
theorem symbolM_len (en : Int) (x : List UInt8) (ts : List Tok) : Sho (symbolM en x ts) ts := by
  unfold symbolM
  split
  · next h => exact Sho.ok (isT_len h)
  · exact Sho_bad
theorem numberM_len (en lo hi : Int) (ts : List Tok) : Sho (numberM en lo hi ts) ts := by
  unfold numberM
  split
  · next h =>
    split
    · exact Sho_bad
    · exact Sho.ok (kindT_len h)
  · exact Sho_bad
theorem byM_len (en : Int) (l : List ByteArray) (ts : List Tok) : Sho (byM en l ts) ts := by
  unfold byM
  split
  · next h =>
    split
    · exact Sho_bad
    · split
      · split
        · exact Sho_bad
        · exact Sho.ok (kindT_len h)
      · split
        · exact Sho_bad
        · exact Sho.ok (kindT_len h)
  · exact Sho_bad
theorem bysM_len (n : Nat) : ∀ (en : Int) (l : List ByteArray) (ts : List Tok), Sho (bysM n en l ts) ts := by
  induction n with
  | zero => intro en l ts; exact Sho_bad
  | succ n ih =>
    intro en l ts
    unfold bysM
    refine (byM_len en l ts).and fun a u _ => ?_
    split
    · next h => exact ((ih en _ _).from (tail_len u)).le
    · exact Shl.ok (Nat.le_refl _)
theorem gKM_len (en fn : Int) (ts : List Tok) : Shl (gKM en fn ts) ts := by
  unfold gKM
  split
  · exact ((symbolM_len _ _ _).and fun _ u _ => ((numberM_len _ _ _ _).and fun _ v _ => ((symbolM_len _ _ _).and fun _ x _ => Shl.ok (Nat.le_refl _)).le).le).le
  · exact Shl.ok (Nat.le_refl _)
theorem gByM_len (en : Int) (ts : List Tok) : Shl (gByM en ts) ts := by
  unfold gByM
  split
  · next h =>
    refine Shl.from ((symbolM_len _ _ _).and fun _ u _ => ?_).le (tail_len ts)
    split
    · exact Shl.ok (tail_len u)
    · exact ((bysM_len _ _ _ _).and fun _ v _ => ((symbolM_len _ _ _).and fun _ x _ => Shl.ok (Nat.le_refl _)).le).le
  · exact Shl.ok (Nat.le_refl _)
theorem gKidM_len (en : Int) (ex : List Tok → Res Tree) (hex : ∀ us, Sho (ex us) us) (ts : List Tok) : Sho (gKidM en ex ts) ts :=
  (symbolM_len _ _ _).and fun _ u _ => ((hex u).and fun _ v _ => ((symbolM_len _ _ _).and fun _ x _ => Shl.ok (Nat.le_refl _)).le).le
theorem groupM_len (en : Int) (ex : List Tok → Res Tree) (hex : ∀ us, Sho (ex us) us) (fn : Int) (ts : List Tok) : Sho (groupM en ex fn ts) ts :=
  (gKM_len _ _ _).andO fun _ u _ => (gByM_len _ _).andO fun _ v _ => (gKidM_len en ex hex _).and fun _ x _ => Shl.ok (Nat.le_refl _)
theorem matchM_len (en : Int) (b : Nat) (ts : List Tok) : Sho (matchM en b ts) ts := by
  unfold matchM
  split
  · next h =>
    split
    · exact Sho_bad
    · split
      · next h2 =>
        split
        · next h3 => exact Sho.ok (Nat.lt_trans (kindT_len h3) (Nat.lt_trans (kindT_len h2.1) (kindT_len h)))
        · exact Sho_bad
      · exact Sho_bad
  · exact Sho_bad
theorem matchsM_len (n : Nat) : ∀ (en : Int) (l : List Mat) (ts : List Tok), Sho (matchsM n en l ts) ts := by
  induction n with
  | zero => intro en l ts; exact Sho_bad
  | succ n ih =>
    intro en l ts
    unfold matchsM
    refine (matchM_len en _ ts).and fun a u _ => ?_
    split
    · next h => exact ((ih en _ _).from (tail_len u)).le
    · exact Shl.ok (Nat.le_refl _)
theorem sMatM_len (en : Int) (ts : List Tok) : Shl (sMatM en ts) ts := by
  unfold sMatM
  split
  · next h =>
    split
    · exact Shl.ok (Nat.le_trans (tail_len _) (tail_len _))
    · exact ((matchsM_len _ _ _ _).and fun _ v _ => ((symbolM_len _ _ _).and fun _ x _ => Shl.ok (Nat.le_refl _)).le).le.from (tail_len ts)
  · exact Shl.ok (Nat.le_refl _)
theorem funM_len (en : Int) (ts : List Tok) : Sho (funM en ts) ts := by
  unfold funM
  split
  · next h =>
    split
    · exact Sho.ok (kindT_len h.1)
    · refine Shl.fromO ((symbolM_len _ _ _).and fun _ u _ => ((numberM_len _ _ _ _).and fun w v _ => ?_).le).le (kindT_len h.1)
      refine Shl.and ?_ fun _ x _ => ((symbolM_len _ _ _).and fun _ x _ => Shl.ok (Nat.le_refl _)).le
      split
      · exact ((symbolM_len _ _ _).and fun _ x _ => (numberM_len _ _ _ _).le).le
      · exact Shl.ok (Nat.le_refl _)
  · exact Sho_bad
theorem sFunM_len (en : Int) (ts : List Tok) : Shl (sFunM en ts) ts := by
  unfold sFunM
  split
  · exact ((funM_len _ _).from (tail_len ts)).le
  · exact Shl.ok (Nat.le_refl _)
theorem sOffM_len (en : Int) (ts : List Tok) : Shl (sOffM en ts) ts := by
  unfold sOffM
  split
  · exact ((numberM_len _ _ _ _).from (tail_len ts)).le
  · exact Shl.ok (Nat.le_refl _)
theorem selectM_len (en : Int) (nm : List UInt8) (ts : List Tok) : Shl (selectM en nm ts) ts :=
  (sMatM_len _ _).and fun _ _ _ => (sFunM_len _ _).and fun _ _ _ => (sOffM_len _ _).and fun _ _ _ => Shl.ok (Nat.le_refl _)
theorem opLoop_len (opd : List Tok → Res Tree) (hop : ∀ us, Sho (opd us) us) (first : Nat) (n : Nat) : ∀ (left : Tree) (ts : List Tok), Shl (opLoop opd first n left ts) ts := by
  induction n with
  | zero => intro left ts; exact Shl.ok (Nat.le_refl _)
  | succ n ih =>
    intro left ts
    unfold opLoop
    split
    · next h => exact (((hop _).and fun _ u _ => ih _ _).from (tail_len ts)).le
    · exact Shl.ok (Nat.le_refl _)
theorem operM_len (opd : List Tok → Res Tree) (hop : ∀ us, Sho (opd us) us) (first : Nat) (ts : List Tok) : Sho (operM opd first ts) ts :=
  (hop ts).and fun _ _ _ => opLoop_len opd hop first _ _ _
theorem exprOf_len (fac : List Tok → Res Tree) (hf : ∀ us, Sho (fac us) us) (ts : List Tok) : Sho (exprOf fac ts) ts := operM_len _ (operM_len fac hf 2) 0 ts
theorem facM_len (en : Int) (n : Nat) : ∀ ts : List Tok, Sho (facM en n ts) ts := by
  induction n with
  | zero => intro ts; exact Sho_bad
  | succ n ih =>
    intro ts
    unfold facM
    split
    · next h => exact Sho.ok (kindT_len h)
    · split
      · next h => exact Shl.fromO ((exprOf_len _ ih _).and fun _ _ _ => ((symbolM_len _ _ _).and fun _ _ _ => Shl.ok (Nat.le_refl _)).le).le (isT_len h)
      · split
        · next h =>
          split
          · exact (groupM_len _ _ (exprOf_len _ ih) _ _).le.fromO (kindT_len h)
          · exact (selectM_len _ _ _).fromO (kindT_len h)
        · exact Sho_bad
end
section
open Go.RowKit

def namesL : List ByteArray := [⟨#[97]⟩, ⟨#[97, 98]⟩, ⟨#[98]⟩, ⟨#[106, 111, 98]⟩, ⟨#[120, 95, 49]⟩, ⟨#[122, 111, 110, 101]⟩]
def valuesL : List ByteArray := [⟨#[97]⟩, ⟨#[97, 98]⟩, ⟨#[98]⟩, ⟨#[120, 49]⟩, ⟨#[126, 33]⟩, ⟨#[48]⟩]
def valuesL8 : List ByteArray := valuesL ++ [⟨#[]⟩, ⟨#[120]⟩]
theorem strInfo : (Tryz.prog.info? 9).map (fun i => (i.zero, i.size, i.bytes)) = some (some (.string ⟨#[]⟩), 1, 16) := by kernel_rfl
/-- a matcher made of the lists -/
def GoodMat (m : Mat) : Prop := m.1 ∈ namesL ∧ (0 ≤ m.2.1 ∧ m.2.1 < 3) ∧ m.2.2 ∈ valuesL8
theorem namesL_ok : ∀ x ∈ namesL, nameB x = true ∧ x.size ≤ 16 := by
  intro x hx
  simp [namesL] at hx
  rcases hx with rfl | rfl | rfl | rfl | rfl | rfl <;> exact ⟨by kernel_rfl, by decide⟩
theorem valuesL8_ok : ∀ x ∈ valuesL8, valueB x = true ∧ x.size ≤ 16 := by
  intro x hx
  simp [valuesL8, valuesL] at hx
  rcases hx with rfl | rfl | rfl | rfl | rfl | rfl | rfl | rfl <;> exact ⟨by kernel_rfl, by decide⟩
theorem good_ok {ms : List Mat} (hl : ms.length ≤ 1000) (h : ∀ m ∈ ms, GoodMat m) : MsOk ms := by
  refine ⟨hl, fun x hx => ?_⟩
  have a := (namesL_ok _ (h x hx).1).2
  have b := (valuesL8_ok _ (h x hx).2.2).2
  unfold maxLen; omega
theorem own_newAt {w : World} {k base : Nat} (cs : Array Value) (t : TypeId) (n : Nat) (xs : List Value) (h : w.heap.size = k) (hb : base ≤ k) (hs : cs.size = n) (hx : cs.toList = xs) (hn : n ≤ 1000) : (w.alloc (.cells cs t)).ownsRow base t 1 (.slice (some ⟨k, 0, none⟩) n n) n xs := by
  subst h hx
  exact ⟨by simp [hs], .inr ⟨_, _, cs, rfl, hb, heap_alloc_new w _, Nat.le_refl _, by unfold maxLen; omega, by omega, by rw [Nat.mul_one, ← hs]; exact List.take_of_length_le (by simp)⟩⟩
theorem cells2At {w : World} {k : Nat} (h : w.heap.size = k) (t : TypeId) (v0 v1 : Value) : ∀ j u, [v0, v1][j]? = some u → (w.alloc (.cells #[v0, v1] t)).cell? ((⟨k, 0, none⟩ : Addr).add j) = some u := by
  subst h
  intro j u hj
  match j, hj with
  | 0, hj => simp at hj; subst hj; simp [Addr.add]
  | 1, hj => simp at hj; subst hj; simp [Addr.add]
  | j + 2, hj => simp at hj

def MsRel (w : World) (m : Int) (nv vv v i : Value) (wr : World) : Prop :=
  ∃ (k : Nat) (ms : List Mat), (k : Int) ≤ m ∧ i = .int .i64 k ∧ ms.length = k ∧ (∀ x ∈ ms, GoodMat x) ∧ wr.ownsRow w.heap.size 91 3 v k (ms.flatMap matCells) ∧ Strs wr w.heap.size nv namesL ∧ Strs wr w.heap.size vv valuesL8 ∧ Below w.heap.size w wr

/-- element i of a slice of strings -/
theorem Strs.pick {w : World} {base n c : Nat} {A : Option Addr} {l : List ByteArray} (h : Strs w base (.slice A n c) l) (i : Int) (h0 : 0 ≤ i) (h1 : i < l.length) : ∃ b off x, A = some ⟨b, off, none⟩ ∧ Fit w base 9 b ∧ x ∈ l ∧ w.cell? ⟨b, off + i.toNat, none⟩ = some (.string x) := by
  have hk : i.toNat < l.length := by omega
  obtain ⟨h1, A', c', hv, _, _, h2⟩ := h
  cases hv
  obtain ⟨b, off, rfl, hf, hx⟩ := h2 (by omega)
  exact ⟨b, off, l[i.toNat], rfl, hf, List.getElem_mem hk, hx i.toNat _ (by rw [List.getElem?_map, List.getElem?_eq_getElem hk]; rfl)⟩
theorem fr_below {base : Nat} {T : List TypeId} {w w' : World} (f : Fr base T w w') (h : base ≤ w.heap.size) : Below base w w' := ⟨f.os, f.tape, f.output, f.size, fun k hk => f.block k (by omega) (.inl hk)⟩
theorem fit_cell {base t : Nat} {T : List TypeId} {w w' : World} {b o : Nat} {u : Value} (h : Fit w base t b) (f : Fr base T w w') (ht : t ∉ T) (hc : w.cell? ⟨b, o, none⟩ = some u) : w'.cell? ⟨b, o, none⟩ = some u := (World.cell?_of_block (a := ⟨b, o, none⟩) (h.keep f ht).2).trans hc
theorem Strs.keep {w w' : World} {base : Nat} {T : List TypeId} {v : Value} {l : List ByteArray} (h : Strs w base v l) (f : Fr base T w w') (ht : 9 ∉ T) : Strs w' base v l := Seq.keep h f ht
theorem cells3 (w : World) (t : TypeId) (v0 v1 v2 : Value) : ∀ j u, [v0, v1, v2][j]? = some u → (w.alloc (.cells #[v0, v1, v2] t)).cell? ((⟨w.heap.size, 0, none⟩ : Addr).add j) = some u := by
  intro j u hj
  match j, hj with
  | 0, hj => simp at hj; subst hj; simp [Addr.add]
  | 1, hj => simp at hj; subst hj; simp [Addr.add]
  | 2, hj => simp at hj; subst hj; simp [Addr.add]
  | j + 3, hj => simp at hj
theorem mat_one (m : Mat) : ∀ u ∈ matCells m, u.oneCell' = true := by
  intro u hu
  simp [matCells] at hu
  rcases hu with rfl | rfl | rfl <;> rfl
end
section
open Go.RowKit

/-- the units that were found: one -/
structure U1 (W : World) (u : Value) (b off c : Nat) : Prop where
  eq : u = .slice (some ⟨b, off, none⟩) 1 c
  le : 1 ≤ c ∧ c ≤ maxLen
  lt : b < W.heap.size
  c0 : W.cell? ⟨b, off, none⟩ = some (.int .i64 1)
  c1 : W.cell? ⟨b, off + 1, none⟩ = some (.int .i64 0)
  c2 : W.cell? ⟨b, off + 2, none⟩ = some (.int .i64 0)
theorem U1.below {W W' : World} {u : Value} {b off c : Nat} (h : U1 W u b off c) (hb : Below W.heap.size W W') : U1 W' u b off c :=
  ⟨h.eq, h.le, Nat.lt_of_lt_of_le h.lt hb.size, (hb.cell h.lt).trans h.c0, (hb.cell h.lt).trans h.c1, (hb.cell h.lt).trans h.c2⟩
end
end Go.Proofs.YthoibeajhdhdhaaGreatDoor
