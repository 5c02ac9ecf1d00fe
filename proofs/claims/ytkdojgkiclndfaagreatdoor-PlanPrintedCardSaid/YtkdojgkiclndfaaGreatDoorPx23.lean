/- Contracts, packed: Jb Lb. -/
import Derived.Test.YtkdojgkiclndfaaGreatDoorPx5
import Derived.Test.YtkdojgkiclndfaaGreatDoorPx11
import Derived.Shelf.Strings.BuilderK
import Derived.Lib.FrozenHead2
set_option linter.unusedVariables false
set_option linter.unusedSimpArgs false
namespace Go.Proofs.YtkdojgkiclndfaaGreatDoor
section
open Go.RowKit FracM
abbrev bT : TypeId := 66
abbrev uT : TypeId := 5
/-- the builder in block b holds these bytes -/
def Bd (w : World) (b : Nat) (l : List UInt8) : Prop := Lib.IsBuilderF bT uT b b (Lib.byteCells l) w
/-- what a writer leaves: below the builder all stands, and above it what is no row of bytes -/
structure Kp (b : Nat) (w w' : World) : Prop where
 below : Below b w w'
 kept : Lib.OthersKept uT (some b) w w'
theorem Kp.refl (b : Nat) (w : World) : Kp b w w := ⟨Below.refl _ _, Lib.OthersKept.refl _ _ _⟩
theorem Kp.trans {b : Nat} {w w1 w2 : World} (h : Kp b w w1) (k : Kp b w1 w2) : Kp b w w2 := ⟨h.below.trans k.below, h.kept.trans k.kept⟩
theorem Kp.of_below {b : Nat} {w w' : World} (h : Below w.heap.size w w') (hb : b ≤ w.heap.size) : Kp b w w' :=
 ⟨h.mono hb, fun k o hk _ _ => by
  have hlt : k < w.heap.size := (Array.getElem?_eq_some_iff.1 hk).1
  exact (h.block k hlt).trans hk⟩
theorem Kp.alloc {b : Nat} {w w' : World} (h : Kp b w w') (hb : b ≤ w.heap.size) (o : Obj) : Kp b w (w'.alloc o) := h.trans (Kp.of_below (bel1 _ _) (Nat.le_trans hb h.below.size))
theorem Kp.blk {b g : Nat} {t : TypeId} {cs : Array Value} {w w' : World} (h : Kp b w w') (hg : Blk w g t cs) (hn : g ≠ b) (ht : t ≠ uT) : Blk w' g t cs :=
 h.kept g _ hg (fun e => hn (Option.some.inj e)) (fun c fz e => ht (by injection e))
theorem Bd.lt {w : World} {b : Nat} {l : List UInt8} (h : Bd w b l) : b < w.heap.size := by
 rcases h with h | h
 ·exact h.lt
 ·exact h.lt
theorem bdF_kept {w w' : World} {b : Nat} {p : Value} {bs : List Value} (h : Lib.BuilderAtF bT uT b b p bs w) (row : Option Nat) (hg : w.grownBy w' row) (h1 : row ≠ some b) (h2 : ∀ g, row = some g → ∃ cs t, w.heap[g]? = some (.cells cs t (0, 0)) ∧ t ≠ uT) : Lib.BuilderAtF bT uT b b p bs w' := by
 have hl := h.lt
 obtain ⟨hB, v, hb, hown, hne⟩ := h
 refine ⟨hB, v, ?_, hown.kept (row := row) hg ?_, hne⟩
 ·rw [hg.block b hl (fun e => h1 e.symm)]; exact hb
 ·rcases hown.2 with ⟨rfl, _⟩ | ⟨g, cap, cur, fz, rfl, _, hg', _⟩
  ·exact .inl rfl
  ·refine .inr fun e => ?_
   obtain ⟨cs, t, h3, h4⟩ := h2 g e.symm
   rw [hg'] at h3
   injection h3 with h3
   injection h3 with _ h3
   exact h4 h3.symm
theorem Bd.kept {w w' : World} {b : Nat} {l : List UInt8} (h : Bd w b l) (row : Option Nat) (hg : w.grownBy w' row) (h1 : row ≠ some b) (h2 : ∀ g, row = some g → ∃ cs t, w.heap[g]? = some (.cells cs t (0, 0)) ∧ t ≠ uT) : Bd w' b l := by
 rcases h with h | h
 ·exact .inl (bdF_kept h row hg h1 h2)
 ·exact .inr (bdF_kept h row hg h1 h2)
theorem Bd.below {w w' : World} {b : Nat} {l : List UInt8} (h : Bd w b l) (hb : Below w.heap.size w w') : Bd w' b l :=
 h.kept none ⟨hb.os, hb.tape, hb.output, hb.size, fun i hi _ => hb.block i hi⟩ (by simp) (by simp)
theorem Bd.alloc {w : World} {b : Nat} {l : List UInt8} (h : Bd w b l) (o : Obj) : Bd (w.alloc o) b l := h.below (bel1 _ _)
/-- a store into a block of another kind -/
theorem Bd.set {w : World} {b g o : Nat} {t : TypeId} {cs : Array Value} {l : List UInt8} (h : Bd w b l) (hg : Blk w g t cs) (ht : t ≠ uT) (hn : g ≠ b) (u : Value) : Bd (w.setCell ⟨g, o, none⟩ u) b l :=
 h.kept (some g) ⟨rfl, rfl, rfl, by simp [World.setCell], fun k _ hk => Below.heap_setCell _ _ _ _ (fun e => hk (by rw [e]))⟩ (fun e => hn (Option.some.inj e)) (fun x hx => ⟨cs, t, by obtain rfl := Option.some.inj hx; exact hg, ht⟩)
theorem bdT_ne : bT ≠ uT := by decide
theorem bd_new (w : World) : Bd (w.alloc (.cells #[.pointer none, .slice none 0 0] bT)) w.heap.size [] :=
 .inl ⟨Nat.le_refl _, .slice none 0 0, heap_alloc_new w _, World.ownsRowF_nil _ _ _ _, by simp [Value.ownBlock]⟩
theorem byteInfo : (Tryz.prog.info? uT).map (fun i => (i.zero, i.size, i.bytes)) = some (some (.int .u8 0), 1, 1) := by kernel_rfl
theorem byteCells_app (a c : List UInt8) : Lib.byteCells (a ++ c) = Lib.byteCells a ++ Lib.byteCells c := by simp [Lib.byteCells]
set_option maxHeartbeats 1000000 in
set_option maxRecDepth 100000 in
theorem bcopy_used (b : Nat) (w : World) (h0 : w.cell? ⟨b, 0, none⟩ = some (.pointer (some ⟨b, 0, none⟩))) :
  Calls Tryz.prog 103 #[.pointer (some ⟨b, 0, none⟩)] w fun e w' => e = .returned (.tuple #[]) ∧ w' = w := by
 obtain ⟨j, hj, _⟩ := Option.map_eq_some_iff.1 (show (Tryz.prog.info? bT).map (·.size) = some 2 by kernel_rfl)
 go_enter Tryz.func103, Tryz.ntmps103
 go_wp2_with fail
 rw [Lib.run_neq_ptr_same w _ Tryz.underlying64 hj]
 go_wp2_with fail
 go_end0
 exact ⟨rfl, rfl⟩
set_option maxHeartbeats 1000000 in
set_option maxRecDepth 100000 in
theorem bcopy_fresh (b : Nat) (w : World) (h0 : w.cell? ⟨b, 0, none⟩ = some (.pointer none)) (hsh : w.shape? b = some (bT, 2)) (hfz : w.frozen? ⟨b, 0, none⟩ = false) :
  Calls Tryz.prog 103 #[.pointer (some ⟨b, 0, none⟩)] w fun e w' => e = .returned (.tuple #[]) ∧ w' = w.setCell ⟨b, 0, none⟩ (.pointer (some ⟨b, 0, none⟩)) := by
 obtain ⟨j, hj, hjs⟩ := Option.map_eq_some_iff.1 (show (Tryz.prog.info? bT).map (·.size) = some 2 by kernel_rfl)
 have hl : liesAt Tryz.prog Tryz.prog.depth bT (2 / Tryz.prog.cellsOf bT) 0 bT 1 = true := by kernel_rfl
 go_enter Tryz.func103, Tryz.ntmps103
 go_wp2_with fail
 rw [Lib.run_to_unsafe w ⟨b, 0, none⟩ Tryz.underlying64 Tryz.underlying166 hj (by rw [hjs]; decide) hsh (Nat.zero_lt_succ 1)]
 simp only [Result.andThen]
 rw [Oper.upon_value]
 go_wp2_with fail
 rw [run_callFunc_extern Tryz.func132 (by kernel_rfl) (by kernel_rfl) (by kernel_rfl) (e := Extern.AbiNoEscape.same) (by kernel_rfl)]
 rw [Lib.run_noEscape]
 simp only [Result.andThen]
 rw [Oper.upon_value]
 go_wp2_with fail
 rw [Lib.run_from_unsafe w ⟨b, 0, none⟩ Tryz.underlying166 Tryz.underlying64 hj hsh hl]
 simp only [Result.andThen]
 rw [Oper.upon_value]
 go_wp2_with fail
 go_end0
 exact ⟨rfl, rfl⟩
def RetBd (b : Nat) (l : List UInt8) (v : Value) (w : World) (e : Ending) (w' : World) : Prop := e = .returned v ∧ Bd w' b l ∧ Kp b w w'
theorem bcopy_any (b : Nat) (bs : List Value) (w : World) (h : Lib.IsBuilderF bT uT b b bs w) :
  Calls Tryz.prog 103 #[.pointer (some ⟨b, 0, none⟩)] w fun e w' => e = .returned (.tuple #[]) ∧ (Lib.BuilderAtF bT uT b b (.pointer (some ⟨b, 0, none⟩)) bs w' ∧ Below b w w' ∧ Lib.OthersKept uT (some b) w w') := by
 rcases h with h | h
 ·refine (bcopy_fresh b w h.cell0 h.shape h.frozen0).mono ?_
  rintro e w' ⟨rfl, rfl⟩
  exact ⟨rfl, h.used _, (Below.refl b w).setCell (p := ⟨b, 0, none⟩) h.1 _, (Lib.OthersKept.refl _ _ w).setCell ⟨b, 0, none⟩ rfl _⟩
 ·refine (bcopy_used b w h.cell0).mono ?_
  rintro e w' ⟨rfl, rfl⟩
  exact ⟨rfl, h, Below.refl b _, Lib.OthersKept.refl _ _ _⟩
set_option maxHeartbeats 2000000 in
set_option maxRecDepth 100000 in
theorem bbyte_any (b : Nat) (l : List UInt8) (c : Int) (x : UInt8) (w : World) (h : Bd w b l) (hc : c = x.toNat) (hlen : l.length + 1 ≤ 140737488355328) :
  Calls Tryz.prog 101 #[.pointer (some ⟨b, 0, none⟩), .int .u8 c] w (RetBd b (l ++ [x]) .nilIface w) := by
 subst hc
 obtain ⟨i0, hi, hz0, hz1, hz2⟩ := info_parts byteInfo
 have hlb : (Lib.byteCells l).length + 1 ≤ 140737488355328 := by simpa [Lib.byteCells] using hlen
 have hbw := h.lt
 have e120 : ∀ args w, (callFunc 103 args).run Tryz.prog w = .ok (.enter 103 args) w := enters_of Tryz.func103 (by kernel_rfl) rfl
 go_enter Tryz.func101, Tryz.ntmps101
 go_wp2_with fail
 refine (bcopy_any b (Lib.byteCells l) _ h).mono ?_
 rintro e w1 ⟨rfl, h1, hb1, hk1⟩
 obtain ⟨hB, v, hbk, hown, hne⟩ := h1
 have c0 : w1.cell? ⟨b, 0, none⟩ = some (.pointer (some ⟨b, 0, none⟩)) := by rw [Lib.cell_of_heap hbk]; rfl
 have c1 : w1.cell? ⟨b, 1, none⟩ = some v := by rw [Lib.cell_of_heap hbk]; rfl
 go_wp2_with (at_builtin; refine wpList_append_ownF _ rfl _ _ 39 rfl b uT i0 (.int .u8 0) 1 1 Tryz.underlying39 hi hz0 hz1 hz2 rfl (by decide) _ _ _ rfl (hown.alloc _) ⟨w1.heap.size, 0, none⟩ 1 1 [.int .u8 (x.toNat : Int)] rfl rfl ?c1 ?c2 ?c3 ?c4 ?c5 ?_)
 case c1 =>
  intro j u hj
  match j, hj with
  | 0, hj => simp at hj; subst hj; simp [Addr.add]
 case c2 => intro u hu; simp at hu; subst hu; rfl
 case c3 => unfold maxLen; omega
 case c4 => omega
 case c5 => have := hb1.size; simp; omega
 intro v' w2 hown' hgrow _
 have hlt : b < w1.heap.size := by
  rcases Nat.lt_or_ge b w1.heap.size with h' | h'
  ·exact h'
  ·simp [Array.getElem?_eq_none h'] at hbk
 have hb2 : w2.heap[b]? = some (.cells #[.pointer (some ⟨b, 0, none⟩), v] bT (0, 0)) := by
  rw [hgrow.block b (by simp; omega) (fun e => hne e.symm), Lib.alloc_old w1 _ b hlt]
  exact hbk
 have d0 : w2.cell? ⟨b, 0, none⟩ = some (.pointer (some ⟨b, 0, none⟩)) := by rw [Lib.cell_of_heap hb2]; rfl
 have d1 : w2.cell? ⟨b, 1, none⟩ = some v := by rw [Lib.cell_of_heap hb2]; rfl
 have f1 : w2.frozen? ⟨b, 1, none⟩ = false := Lib.frozen_of_heap hb2 1
 obtain ⟨g, cap, rfl⟩ : ∃ g cap, v' = .slice (some ⟨g, 0, none⟩) ((Lib.byteCells l).length + 1) cap := by
  rcases hown'.2 with ⟨_, h0⟩ | ⟨g, cap, cur, fz, hv, _⟩
  ·omega
  ·exact ⟨g, cap, hv⟩
 go_wp2_with fail
 go_ret
 refine ⟨rfl, .inr ?_, ?_, ((hk1.alloc _).grown hgrow (Lib.ownsRowF_kind (hown.alloc _))).setCell ⟨b, 1, none⟩ rfl _⟩
 ·exact Lib.BuilderAtF.put (T := bT) (e := uT) hB hb2 (bs' := Lib.byteCells (l ++ [x])) (by simpa [Lib.byteCells] using hown') bdT_ne
 ·exact ((hb1.alloc (by have := hb1.size; omega) _).grown hgrow (by have := hb1.size; simp; omega) (fun k hk => (hown.lt k hk).1)).setCell (p := ⟨b, 1, none⟩) hB _
set_option maxHeartbeats 2000000 in
set_option maxRecDepth 100000 in
theorem bstr_any (b : Nat) (l : List UInt8) (s : ByteArray) (w : World) (h : Bd w b l) (hlen : l.length + s.size ≤ 140737488355328) :
  Calls Tryz.prog 70 #[.pointer (some ⟨b, 0, none⟩), .string s] w (RetBd b (l ++ s.data.toList) (.tuple #[.int .i64 s.size, .nilIface]) w) := by
 obtain ⟨i0, hi, hz0, hz1, hz2⟩ := info_parts byteInfo
 have hlb : (Lib.byteCells l).length + s.size ≤ 140737488355328 := by simpa [Lib.byteCells] using hlen
 have hbw := h.lt
 have e120 : ∀ args w, (callFunc 103 args).run Tryz.prog w = .ok (.enter 103 args) w := enters_of Tryz.func103 (by kernel_rfl) rfl
 go_enter Tryz.func70, Tryz.ntmps70
 go_wp2_with fail
 refine (bcopy_any b (Lib.byteCells l) _ h).mono ?_
 rintro e w1 ⟨rfl, h1, hb1, hk1⟩
 obtain ⟨hB, v, hbk, hown, hne⟩ := h1
 have c0 : w1.cell? ⟨b, 0, none⟩ = some (.pointer (some ⟨b, 0, none⟩)) := by rw [Lib.cell_of_heap hbk]; rfl
 have c1 : w1.cell? ⟨b, 1, none⟩ = some v := by rw [Lib.cell_of_heap hbk]; rfl
 go_wp2_with (at_builtin; refine Lib.wpList_append_own_stringF _ rfl _ _ 39 9 rfl b uT i0 Tryz.underlying39 Tryz.underlying9 hi hz0 hz1 hz2 _ _ _ rfl hown s rfl ?c3 ?c4 ?c5 ?_)
 case c3 => unfold maxLen; omega
 case c4 => omega
 case c5 => have := hb1.size; omega
 intro v' w2 hown' hgrow _
 have hlt : b < w1.heap.size := by
  rcases Nat.lt_or_ge b w1.heap.size with h' | h'
  ·exact h'
  ·simp [Array.getElem?_eq_none h'] at hbk
 have hb2 : w2.heap[b]? = some (.cells #[.pointer (some ⟨b, 0, none⟩), v] bT (0, 0)) := by
  rw [hgrow.block b hlt (fun e => hne e.symm)]
  exact hbk
 have d0 : w2.cell? ⟨b, 0, none⟩ = some (.pointer (some ⟨b, 0, none⟩)) := by rw [Lib.cell_of_heap hb2]; rfl
 have d1 : w2.cell? ⟨b, 1, none⟩ = some v := by rw [Lib.cell_of_heap hb2]; rfl
 have f1 : w2.frozen? ⟨b, 1, none⟩ = false := Lib.frozen_of_heap hb2 1
 obtain ⟨ao, n', cap, rfl⟩ : ∃ ao n' cap, v' = .slice ao n' cap := by
  rcases hown'.2 with ⟨hv, _⟩ | ⟨g, cap, cur, fz, hv, _⟩
  ·exact ⟨_, _, _, hv⟩
  ·exact ⟨_, _, _, hv⟩
 go_wp2_with fail
 go_ret2
 refine ⟨rfl, .inr ?_, ?_, (hk1.grown hgrow (Lib.ownsRowF_kind hown)).setCell ⟨b, 1, none⟩ rfl _⟩
 ·exact Lib.BuilderAtF.put (T := bT) (e := uT) hB hb2 (bs' := Lib.byteCells (l ++ s.data.toList)) (by rw [byteCells_app, List.length_append]; simpa [Lib.strCells_length, Lib.strCells, Lib.byteCells] using hown') bdT_ne
 ·exact (hb1.grown hgrow (by have := hb1.size; omega) (fun k hk => (hown.lt k hk).1)).setCell (p := ⟨b, 1, none⟩) hB _
end
section
open Go.RowKit FracM
/-- a token without its offset -/
abbrev ETok := Int × List UInt8 × Int
def er (t : Tok) : ETok := (t.kind, t.text, t.n)
/-- the text lexes to these tokens -/
def Lx (l : List UInt8) (es : List ETok) : Prop := ∀ n i, l.length ≤ n → ∃ T, lexM n i l = (T, 0, i + l.length) ∧ T.map er = es
def nh (f : UInt8 → Bool) (r : List UInt8) : Prop := ∀ c, r.head? = some c → f c = false
theorem nh_nil (f : UInt8 → Bool) : nh f [] := fun c h => by simp at h
theorem nh_cons {f : UInt8 → Bool} {c : UInt8} {r : List UInt8} (h : f c = false) : nh f (c :: r) := fun d hd => by simp at hd; subst hd; exact h
theorem tw_app {f : UInt8 → Bool} {w r : List UInt8} (hw : ∀ c ∈ w, f c = true) (hr : nh f r) : (w ++ r).takeWhile f = w := by
 induction w with
 | nil =>
  cases r with
  | nil => rfl
  | cons c r => simp [List.takeWhile_cons, hr c rfl]
 | cons c w ih => rw [List.cons_append, List.takeWhile_cons, hw c (by simp), if_pos rfl, ih fun x hx => hw x (by simp [hx])]
theorem Lx.spc {c : UInt8} {r : List UInt8} {es : List ETok} (hc : spcB c = true) (h : Lx r es) : Lx (c :: r) es := by
 intro n i hn
 simp only [List.length_cons] at hn
 obtain ⟨n, rfl⟩ : ∃ k, n = k + 1 := ⟨n - 1, by omega⟩
 obtain ⟨T, h1, h2⟩ := h n (i + 1) (by omega)
 exact ⟨T, by rw [lexM, if_pos hc, h1]; simp; omega, h2⟩
theorem Lx.tok {c : UInt8} {r : List UInt8} {e : ETok} {es : List ETok} (k : Nat) (hc : spcB c = false) (ht : ∀ i, (tokM i c r).1 = 0 ∧ er (tokM i c r).2.1 = e ∧ (tokM i c r).2.2 = k) (hk : 1 ≤ k ∧ k ≤ r.length + 1) (h : Lx ((c :: r).drop k) es) : Lx (c :: r) (e :: es) := by
 intro n i hn
 simp only [List.length_cons] at hn
 obtain ⟨n, rfl⟩ : ∃ k, n = k + 1 := ⟨n - 1, by omega⟩
 obtain ⟨t1, t2, t3⟩ := ht i
 obtain ⟨T, h1, h2⟩ := h n (i + k) (by simp; omega)
 refine ⟨(tokM i c r).2.1 :: T, ?_, by rw [List.map_cons, t2, h2]⟩
 rw [lexM, hc, if_neg (by simp), if_pos t1, t3, h1]
 simp only [List.length_drop, List.length_cons]
 congr 2
 omega
theorem let_spc {c : UInt8} (h : letB c = true) : spcB c = false := by
 have := (letB_iff c).1 h
 unfold spcB; simp; omega
theorem dig_spc {c : UInt8} (h : digB c = true) : spcB c = false := by
 have := (digB_iff c).1 h
 unfold spcB; simp; omega
theorem dig_let {c : UInt8} (h : digB c = true) : letB c = false := by
 have := (digB_iff c).1 h
 unfold letB; simp; omega
abbrev eW (w : List UInt8) : ETok := (0, w, 0)
abbrev eS (s : List UInt8) : ETok := (3, s, 0)
abbrev eN (n : Int) : ETok := (1, Lib.itoa n, n)
abbrev eX (s : List UInt8) : ETok := (2, s, 0)
theorem Lx.word {w r : List UInt8} {es : List ETok} (h1 : ∀ c ∈ w, wrdB c = true) (h2 : ∃ c v, w = c :: v ∧ letB c = true) (h3 : w.length ≤ 16) (hr : nh wrdB r) (h : Lx r es) : Lx (w ++ r) (eW w :: es) := by
 obtain ⟨c, v, rfl, hc⟩ := h2
 rw [List.cons_append]
 have htw : (c :: (v ++ r)).takeWhile wrdB = c :: v := tw_app (w := c :: v) h1 hr
 refine Lx.tok (c :: v).length (let_spc hc) (fun i => ?_) ⟨by simp, by simp⟩ (by simpa using h)
 unfold tokM
 rw [if_pos hc]
 unfold tokW
 rw [htw]
 exact ⟨if_neg (by omega), rfl, rfl⟩
theorem numV_le {n : Int} (h : n ≤ 1073741824) (c : UInt8) (l : List UInt8) : numV n (c :: l) = numV (n * 10 + ((c.toNat : Int) - 48)) l := by rw [numV, if_pos h]
theorem numV_gt {n : Int} (h : ¬ n ≤ 1073741824) (l : List UInt8) : numV n l = n := by
 cases l with
 | nil => rfl
 | cons c l => rw [numV, if_neg h]
theorem numV_snoc (l : List UInt8) (c : UInt8) : ∀ n : Int, numV n l ≤ 1073741824 → numV n (l ++ [c]) = numV n l * 10 + ((c.toNat : Int) - 48) := by
 induction l with
 | nil =>
  intro n h
  have h' : n ≤ 1073741824 := h
  rw [List.nil_append, numV_le h']; rfl
 | cons d l ih =>
  intro n h
  by_cases hn : n ≤ 1073741824
  ·rw [numV_le hn] at h ⊢
   rw [List.cons_append, numV_le hn]
   exact ih _ h
  ·rw [numV_gt hn] at h; exact absurd h hn
theorem dig_toNat {i : Nat} (h : i < 10) : (UInt8.ofNat (48 + i)).toNat = 48 + i := by
 rw [UInt8.toNat_ofNat']; omega
theorem dec_digs (u : Nat) : ∀ c ∈ Lib.decDigits u, digB c = true := by
 induction u using Nat.strongRecOn with
 | _ u ih =>
  intro c hc
  rw [Lib.decDigits] at hc
  split at hc
  ·next h => obtain rfl := List.mem_singleton.1 hc; rw [digB_iff, dig_toNat h]; omega
  ·next h =>
   simp only [List.mem_append, List.mem_singleton] at hc
   rcases hc with hc | hc
   ·exact ih (u / 10) (by omega) c hc
   ·subst hc; rw [digB_iff, dig_toNat (by omega)]; omega
theorem dec_val (u : Nat) : (u : Int) ≤ 1073741824 → numV 0 (Lib.decDigits u) = u := by
 induction u using Nat.strongRecOn with
 | _ u ih =>
  intro hu
  rw [Lib.decDigits]
  split
  ·next h => rw [numV_le (by omega), dig_toNat h]; show (0 : Int) * 10 + _ = _; omega
  ·next h =>
   have hv := ih (u / 10) (by omega) (by omega)
   rw [numV_snoc _ _ _ (by rw [hv]; omega), hv, dig_toNat (by omega)]
   omega
theorem dec_cons (u : Nat) : ∃ c v, Lib.decDigits u = c :: v := by
 cases h : Lib.decDigits u with
 | nil => have := Lib.decDigits_length u; have := Lib.nDigits_pos u; rw [h] at *; simp at *; omega
 | cons c v => exact ⟨c, v, rfl⟩
theorem Lx.num {n : Int} {r : List UInt8} {es : List ETok} (h0 : 0 ≤ n) (h1 : n ≤ 1073741824) (hr : nh digB r) (h : Lx r es) : Lx (Lib.itoa n ++ r) (eN n :: es) := by
 obtain ⟨u, rfl⟩ : ∃ u : Nat, n = u := ⟨n.toNat, by omega⟩
 have hi : Lib.itoa (u : Int) = Lib.decDigits u := by unfold Lib.itoa; rw [if_neg (by omega)]; rfl
 have hv := dec_val u h1
 have hd := dec_digs u
 obtain ⟨c, v, hcv⟩ := dec_cons u
 unfold eN
 rw [hi]
 rw [hcv] at hd hv ⊢
 have hc := hd c (by simp)
 rw [List.cons_append]
 have htw : (c :: (v ++ r)).takeWhile digB = c :: v := tw_app (w := c :: v) hd hr
 refine Lx.tok (c :: v).length (dig_spc hc) (fun i => ?_) ⟨by simp, by simp⟩ (by simpa using h)
 unfold tokM
 rw [dig_let hc, if_neg (by simp), if_pos hc]
 unfold tokN
 rw [htw, hv]
 exact ⟨if_neg (by omega), rfl, rfl⟩
theorem ixb_app (v r : List UInt8) (c : UInt8) (h : ∀ x ∈ v, x ≠ c) : Lib.indexByte (v ++ c :: r) c = v.length := by
 induction v with
 | nil => simp [Lib.indexByte]
 | cons d v ih =>
  have hd := h d (by simp)
  have hi := ih fun x hx => h x (by simp [hx])
  rw [List.cons_append]
  unfold Lib.indexByte
  split
  ·next hq => exact absurd (by simpa using hq) hd
  ·split
   ·next hq =>
    rw [hi] at hq
    simp at hq
   ·rw [hi]; simp
theorem tokT_ok {i : Nat} {l v : List UInt8} (hix : Lib.indexByte l.tail 34 = v.length) (ht : l.tail.take v.length = v) (ha : v.all txtB = true) (hl : v.length ≤ 16) : tokT i l = (0, ⟨2, v, 0, i⟩, v.length + 2) := by
 unfold tokT
 have hn : (Lib.indexByte l.tail 34).toNat = v.length := by rw [hix]; rfl
 rw [if_neg (by rw [hix]; omega), hn, ht, if_pos ha, if_neg (by rw [hix]; omega)]
theorem Lx.text {v r : List UInt8} {es : List ETok} (h1 : ∀ c ∈ v, txtB c = true ∧ c ≠ 34) (h3 : v.length ≤ 16) (h : Lx r es) : Lx (34 :: (v ++ (34 :: r))) (eX v :: es) := by
 have hix := ixb_app v r 34 fun x hx => (h1 x hx).2
 refine Lx.tok (v.length + 2) (by decide) (fun i => ?_) ⟨by omega, by simp only [List.length_append, List.length_cons]; omega⟩ (by rw [show (34 :: (v ++ 34 :: r)).drop (v.length + 2) = r by rw [show v.length + 2 = (34 :: (v ++ [34])).length by simp, show 34 :: (v ++ 34 :: r) = (34 :: (v ++ [34])) ++ r by simp, List.drop_left]]; exact h)
 unfold tokM
 rw [if_neg (by decide), if_neg (by decide), if_pos (by decide), tokT_ok (v := v) (l := 34 :: (v ++ 34 :: r)) hix (by simp) (by rw [List.all_eq_true]; exact fun c hc => (h1 c hc).1) h3]
 exact ⟨rfl, rfl, rfl⟩
def symB (c : UInt8) : Bool := [43, 45, 42, 47, 40, 41, 123, 125, 44, 46, 64, 61].contains c
theorem Lx.sym {c : UInt8} {r : List UInt8} {es : List ETok} (hc : symB c = true) (h : Lx r es) : Lx (c :: r) (eS [c] :: es) := by
 have : c = 43 ∨ c = 45 ∨ c = 42 ∨ c = 47 ∨ c = 40 ∨ c = 41 ∨ c = 123 ∨ c = 125 ∨ c = 44 ∨ c = 46 ∨ c = 64 ∨ c = 61 := by
  unfold symB at hc; simpa using hc
 rcases this with rfl | rfl | rfl | rfl | rfl | rfl | rfl | rfl | rfl | rfl | rfl | rfl
 all_goals exact Lx.tok 1 (by decide) (fun i => ⟨by simp [tokM, letB, digB, tokS, symN], by simp [tokM, letB, digB, tokS, symN, er], by simp [tokM, letB, digB, tokS, symN]⟩) ⟨by omega, by omega⟩ (by simpa using h)
theorem Lx.sym2 {c : UInt8} {r : List UInt8} {es : List ETok} (hc : c = 33 ∨ c = 94) (h : Lx r es) : Lx (c :: 61 :: r) (eS [c, 61] :: es) := by
 rcases hc with rfl | rfl
 all_goals exact Lx.tok 2 (by decide) (fun i => ⟨by simp [tokM, letB, digB, tokS, symN], by simp [tokM, letB, digB, tokS, symN, er], by simp [tokM, letB, digB, tokS, symN]⟩) ⟨by omega, by simp⟩ (by simpa using h)
end
end Go.Proofs.YtkdojgkiclndfaaGreatDoor
