/- Contracts, packed: Uv. -/
import Derived.Test.YtpgdijbfkahepaaGreatDoorPd23
import Derived.Test.YtpgdijbfkahepaaGreatDoorPd30
import Derived.Test.YtpgdijbfkahepaaGreatDoorPd44
set_option linter.unusedVariables false
set_option linter.unusedSimpArgs false
namespace Go.Proofs.YtpgdijbfkahepaaGreatDoor
section
open Go.RowKit FracM
/-- a tree is handed back, with the error -/
def RetTr (p : Tree × Int) (w : World) (e : Ending) (w' : World) : Prop := ∃ mv bv kv, e = .returned (.tuple #[.agg (ndC p.1.d mv bv kv), .int .i64 p.2]) ∧ TreeAt w' AnyP p.1 (mv, bv, kv) ∧ Below w.heap.size w w'
/-- the loop's state -/
structure TrS (w W : World) (pv : Value) (l : List Nd) (v : Value) (st : List Tree) (cs : List Sl) : Prop where
 below : Below w.heap.size w W
 z : Blk W w.heap.size 35 zeroC
 pl : PlanP W (fun b _ => b < w.heap.size) pv l
 stk : StackC W (w.heap.size + 1) (fun b => b ≠ w.heap.size) v st cs
theorem TrS.next {w W W' : World} {pv v : Value} {l : List Nd} {st : List Tree} {cs : List Sl} (h : TrS w W pv l v st cs) (f : Below W.heap.size W W') : TrS w W' pv l v st cs :=
 ⟨bthen h.below f (Nat.le_refl _), h.z.below f, h.pl.belo f, h.stk.keep f⟩
theorem flat_len11 : ∀ (l : List (Tree × Sl)), (l.flatMap ndL).length = l.length * 11 := by
 intro l
 induction l with
 | nil => rfl
 | cons x r ih => rw [List.flatMap_cons, List.length_append, ih, ndL_len, List.length_cons, Nat.succ_mul, Nat.add_comm]
theorem StackC.form {w : World} {B : Nat} {X : Nat → Prop} {v : Value} {l : List Tree} {cs : List Sl} (h : StackC w B X v l cs) : ∃ A c, v = .slice A l.length c ∧ l.length ≤ c ∧ c ≤ maxLen ∧ ((A = none ∧ l = []) ∨ ∃ g, A = some ⟨g, 0, none⟩ ∧ B ≤ g ∧ g < w.heap.size) := by
 rcases h.own.2 with ⟨h2, h3⟩ | ⟨g, c, cur, hv, hg, hh, hn, hc, -⟩
 ·have h4 : l = [] := List.eq_nil_of_length_eq_zero h3
  subst h4
  exact ⟨none, 0, h2, by simp, by unfold maxLen; omega, .inl ⟨rfl, rfl⟩⟩
 ·exact ⟨_, c, hv, hn, hc, .inr ⟨g, rfl, hg, (Array.getElem?_eq_some_iff.1 hh).1⟩⟩
theorem stack_one {w : World} {B : Nat} {X : Nat → Prop} {v : Value} {l : List Tree} {cs : List Sl} (h : StackC w B X v l cs) (k : Nat) : ∀ u ∈ ((l.drop k).zip (cs.drop k)).flatMap ndL, u.oneCell' = true := by
 intro u hu
 obtain ⟨x, hx, hu⟩ := List.mem_flatMap.1 hu
 rw [← zip_drop] at hx
 obtain ⟨i, hi⟩ := List.mem_iff_getElem?.1 (List.mem_of_mem_drop hx)
 obtain ⟨h1, h2⟩ := List.getElem?_zip_eq_some.1 hi
 exact nd_one (h.at_ i x.1 x.2 h1 h2) u hu
theorem addr_add0 (g k : Nat) : (⟨g, 0, none⟩ : Addr).add k = ⟨g, k, none⟩ := by
 unfold Addr.add
 split
 ·next h => rw [h]
 ·simp
/-- the topmost expressions as a slice of their own -/
theorem stack_top {w : World} {B c : Nat} {X : Nat → Prop} {A : Option Addr} {l : List Tree} {cs : List Sl} (h : StackC w B X (.slice A l.length c) l cs) (k : Nat) (hk : k ≤ l.length) :
  ∃ A2 c2, (∀ W : World, (Instr.slice 33 (.slice A l.length c) (some (.int .i64 (k : Int))) none none).run Tryz.prog W = .ok (.slice A2 (l.length - k) c2) W) ∧ SeqP w AnyP 11 (.slice A2 (l.length - k) c2) (l.length - k) (((l.drop k).zip (cs.drop k)).flatMap ndL) := by
 obtain ⟨A', c', hv, h1, h2, h3⟩ := h.form
 cases hv
 have hr : ∀ W : World, (Instr.slice 33 (.slice A l.length c) (some (.int .i64 (k : Int))) none none).run Tryz.prog W = .ok (.slice (if c = k then A else A.map (·.add (k * 11))) (l.length - k) (c - k)) W := fun W => by
  rw [run_slice_l W 33 A l.length c (by kernel_rfl) .i64 (k : Int) (by omega) (by omega)]
  have hs : (sizeOf (Tryz.prog.elem 33)).run Tryz.prog W = .ok 11 W := by kernel_rfl
  rw [hs]
  simp [Result.andThen, sliced]
 refine ⟨_, _, hr, ?_, _, _, rfl, by omega, by omega, fun h0 => ?_⟩
 ·have hl := h.len
  rw [flat_len11, List.length_zip, List.length_drop, List.length_drop, hl, Nat.min_self]
 ·rcases h3 with ⟨-, h4⟩ | ⟨g, rfl, h4, h5⟩
  ·subst h4; simp at h0
  ·refine ⟨g, k * 11, by rw [if_neg (by omega)]; simp only [Option.map_some, addr_add0], h5, trivial, fun j u hu => ?_⟩
   exact h.cells k j u hu
/-- behind a node's variable is laid -/
structure TrE (w W : World) (pv : Value) (l : List Nd) (v : Value) (st : List Tree) (cs : List Sl) (d : Nd) (q eb : Nat) (mv bv kv : Value) : Prop where
 s : TrS w W pv l v st cs
 e : Blk W eb 35 (ndC d mv bv kv)
 t : TreeAt W (fun b _ => b ≠ w.heap.size ∧ v.ownBlock ≠ some b) (.node d (st.drop q)) (mv, bv, kv)
 ne : v.ownBlock ≠ some eb
theorem TrE.mk' {w U W : World} {pv : Value} {l : List Nd} {v : Value} {st : List Tree} {cs : List Sl} {d : Nd} {q p eb : Nat} {mv bv kv : Value} (h : TrS w U pv l v st cs) (hb : Below U.heap.size U W) (hd : NdOk d) (hq : st.length = q + p)
  (h1 : SeqP W (fun b _ => U.heap.size ≤ b) 3 mv d.ms.length (d.ms.flatMap matCells)) (h2 : SeqP W (fun b _ => U.heap.size ≤ b) 1 bv d.bys.length (d.bys.map Value.string)) (h3 : SeqP W (fun b _ => U.heap.size ≤ b) 11 kv p (((st.drop q).zip (cs.drop q)).flatMap ndL))
  (he : Blk W eb 35 (ndC d mv bv kv)) (hle : U.heap.size ≤ eb) : TrE w W pv l v st cs d q eb mv bv kv := by
 have hown : ∀ b, U.heap.size ≤ b → b ≠ w.heap.size ∧ v.ownBlock ≠ some b := fun b hb => ⟨by have := h.z.lt; omega, fun e => by have := (own_bk h.stk.own b e).2; omega⟩
 refine ⟨h.next hb, he, ?_, (hown eb hle).2⟩
 refine StackC.node (h.stk.keep hb) q (by omega) hd (h1.mono fun b _ _ h => hown b h) (h2.mono fun b _ _ h => hown b h) ?_
 rw [show st.length - q = p by omega]
 exact h3.mono fun b _ _ h => hown b h
theorem seq_put {W : World} {P : Nat → Nat → Prop} {B eb size n : Nat} {v : Value} {xs : List Value} (u0 u1 u2 u3 u4 u5 u6 u7 u8 u9 u10 : Value) (h : SeqP W P size v n xs) (hP : ∀ b e, b < W.heap.size → P b e → B ≤ b ∧ b ≠ eb) : SeqP (put11 W eb u0 u1 u2 u3 u4 u5 u6 u7 u8 u9 u10) (fun b _ => B ≤ b) size v n xs :=
 ((h.mono (Q := fun b _ => B ≤ b ∧ b ≠ eb) fun b e hb hp => hP b e hb hp).keep (Agree.of_only (put11_only ..) fun b _ h => h.2)).mono fun b _ _ h => h.1
theorem TrE.fill {w U W : World} {pv : Value} {l : List Nd} {v : Value} {st : List Tree} {cs : List Sl} {d : Nd} {q p eb : Nat} {mv bv kv : Value} {P1 P2 P3 : Nat → Nat → Prop} (h : TrS w U pv l v st cs) (hb : Below U.heap.size U W) (hd : NdOk d) (hq : st.length = q + p)
  (h1 : SeqP W P1 3 mv d.ms.length (d.ms.flatMap matCells)) (h2 : SeqP W P2 1 bv d.bys.length (d.bys.map Value.string)) (h3 : SeqP W P3 11 kv p (((st.drop q).zip (cs.drop q)).flatMap ndL))
  (he : Blk W eb 35 zeroC) (hle : U.heap.size ≤ eb) (hP1 : ∀ b e, P1 b e → U.heap.size ≤ b ∧ b ≠ eb) (hP2 : ∀ b e, P2 b e → U.heap.size ≤ b ∧ b ≠ eb) (hP3 : ∀ b e, P3 b e → U.heap.size ≤ b ∧ b ≠ eb) :
  TrE w (put11 W eb (.int .i64 d.kind) (.int .i64 d.fn) (.int .i64 d.win) (.int .i64 d.off) (.int .i64 d.k) (.int .i64 d.num) (.int .i64 d.den) (.string d.name) mv bv kv) pv l v st cs d q eb mv bv kv :=
 TrE.mk' h (hb.trans (put11_below hle ..)) hd hq (seq_put _ _ _ _ _ _ _ _ _ _ _ h1 fun b e _ hp => hP1 b e hp) (seq_put _ _ _ _ _ _ _ _ _ _ _ h2 fun b e _ hp => hP2 b e hp) (seq_put _ _ _ _ _ _ _ _ _ _ _ h3 fun b e _ hp => hP3 b e hp) (put11_blk he) hle
theorem TrE.last {w U W : World} {pv : Value} {l : List Nd} {v : Value} {st : List Tree} {cs : List Sl} {d : Nd} {q p : Nat} {mv bv kv : Value} {P1 P2 P3 : Nat → Nat → Prop} (h : TrS w U pv l v st cs) (hb : Below U.heap.size U W) (hd : NdOk d) (hq : st.length = q + p)
  (h1 : SeqP W P1 3 mv d.ms.length (d.ms.flatMap matCells)) (h2 : SeqP W P2 1 bv d.bys.length (d.bys.map Value.string)) (h3 : SeqP W P3 11 kv p (((st.drop q).zip (cs.drop q)).flatMap ndL))
  (hP1 : ∀ b e, P1 b e → U.heap.size ≤ b) (hP2 : ∀ b e, P2 b e → U.heap.size ≤ b) (hP3 : ∀ b e, P3 b e → U.heap.size ≤ b) :
  TrE w (W.alloc (.cells (ndC d mv bv kv) 35)) pv l v st cs d q W.heap.size mv bv kv :=
 TrE.mk' h (bthen hb (bel1 _ _) (Nat.le_refl _)) hd hq ((h1.belo (bel1 _ _)).mono fun b e _ hp => hP1 b e hp) ((h2.belo (bel1 _ _)).mono fun b e _ hp => hP2 b e hp) ((h3.belo (bel1 _ _)).mono fun b e _ hp => hP3 b e hp) (Blk.new _ _ _) hb.size
theorem SeqP.low {w : World} {P : Nat → Nat → Prop} {size n : Nat} {v : Value} {xs : List Value} (h : SeqP w P size v n xs) : SeqP w (fun b _ => b < w.heap.size) size v n xs := h.mono fun b e hb hp => hb
theorem SeqP.lt' {w : World} {P : Nat → Nat → Prop} {size n : Nat} {v : Value} {xs : List Value} (h : SeqP w P size v n xs) : SeqP w (fun b e => P b e ∧ b < w.heap.size) size v n xs := h.mono fun b e hb hp => ⟨hp, hb⟩
abbrev At10z (W : World) (g : Nat) (d : Nd) (mv bv : Value) : Prop := W.cell? ⟨g, 0, none⟩ = some (.int .i64 d.kind) ∧ W.cell? ⟨g, 1, none⟩ = some (.int .i64 d.fn) ∧ W.cell? ⟨g, 2, none⟩ = some (.int .i64 d.win) ∧ W.cell? ⟨g, 3, none⟩ = some (.int .i64 d.off) ∧ W.cell? ⟨g, 4, none⟩ = some (.int .i64 d.k) ∧ W.cell? ⟨g, 5, none⟩ = some (.int .i64 d.num) ∧ W.cell? ⟨g, 6, none⟩ = some (.int .i64 d.den) ∧ W.cell? ⟨g, 7, none⟩ = some (.string d.name) ∧ W.cell? ⟨g, 8, none⟩ = some mv ∧ W.cell? ⟨g, 9, none⟩ = some bv
theorem at10_sub {w w' : World} {g : Nat} {d : Nd} {m1 m2 : Value} (h : At10z w g d m1 m2) (hc : ∀ o, w'.cell? ⟨g, o, none⟩ = w.cell? ⟨g, o, none⟩) : At10z w' g d m1 m2 :=
 ⟨(hc _).trans h.1, (hc _).trans h.2.1, (hc _).trans h.2.2.1, (hc _).trans h.2.2.2.1, (hc _).trans h.2.2.2.2.1, (hc _).trans h.2.2.2.2.2.1, (hc _).trans h.2.2.2.2.2.2.1, (hc _).trans h.2.2.2.2.2.2.2.1, (hc _).trans h.2.2.2.2.2.2.2.2.1, (hc _).trans h.2.2.2.2.2.2.2.2.2⟩
theorem at10_keep {w w' : World} {g B : Nat} {d : Nd} {m1 m2 : Value} (h : At10z w g d m1 m2) (hb : Below B w w') (hg : g < B) : At10z w' g d m1 m2 := at10_sub h fun o => hb.cell (p := ⟨g, o, none⟩) hg
theorem at10_alloc {w : World} {g : Nat} {d : Nd} {m1 m2 : Value} (o : Obj) (h : At10z w g d m1 m2) (hg : g < w.heap.size) : At10z (w.alloc o) g d m1 m2 := at10_keep h (bel1 w o) hg
theorem at10_allocd {w : World} {g : Nat} {d : Nd} {m1 m2 : Value} (o : Obj) (h : At10z w g d m1 m2) (hg : g < w.heap.size) : At10z (w.alloc o).drew g d m1 m2 := at10_keep h ((bel1 w o).drew) hg
theorem at10_put {w : World} {g eb : Nat} {d : Nd} {m1 m2 : Value} (h : At10z w g d m1 m2) (hne : g ≠ eb) (u0 u1 u2 u3 u4 u5 u6 u7 u8 u9 u10 : Value) : At10z (put11 w eb u0 u1 u2 u3 u4 u5 u6 u7 u8 u9 u10) g d m1 m2 :=
 ⟨cell_put11 h.1 hne, cell_put11 h.2.1 hne, cell_put11 h.2.2.1 hne, cell_put11 h.2.2.2.1 hne, cell_put11 h.2.2.2.2.1 hne, cell_put11 h.2.2.2.2.2.1 hne, cell_put11 h.2.2.2.2.2.2.1 hne, cell_put11 h.2.2.2.2.2.2.2.1 hne, cell_put11 h.2.2.2.2.2.2.2.2.1 hne, cell_put11 h.2.2.2.2.2.2.2.2.2 hne⟩
theorem at11_allocd {w : World} {g : Nat} {d : Nd} {m1 m2 m3 : Value} (o : Obj) (h : At11z w g d m1 m2 m3) (hg : g < w.heap.size) : At11z (w.alloc o).drew g d m1 m2 m3 := at11_sub h fun k => (bel1 w o).drew.cell (p := ⟨g, k, none⟩) hg
theorem szd (w : World) (o : Obj) : (w.alloc o).drew.heap.size = w.heap.size + 1 := by show (w.alloc o).heap.size = _; rw [World.size_alloc]
theorem bd1 (w : World) : Below w.heap.size w w.drew := below_drewN w 1
theorem bad1 (w : World) (o : Obj) : Below w.heap.size w (w.alloc o).drew := (bel1 w o).drew
theorem StackC.one {w : World} {B g n c : Nat} {X : Nat → Prop} {t : Tree} {cs : List Sl} (h : StackC w B X (.slice (some ⟨g, 0, none⟩) n c) [t] cs) : ∃ mv bv kv, TreeAt w (fun b _ => X b) t (mv, bv, kv) ∧ At11z w g t.d mv bv kv := by
 have hl := h.len
 obtain ⟨s, rfl⟩ : ∃ s, cs = [s] := List.length_eq_one_iff.1 (by simpa using hl)
 obtain ⟨mv, bv, kv⟩ := s
 refine ⟨mv, bv, kv, (h.at_ 0 t (mv, bv, kv) rfl rfl).mono fun _ _ _ h => h.1, ?_⟩
 have hc := h.cells 0
 simp only [List.drop_zero, Nat.zero_mul, Nat.zero_add] at hc
 exact ⟨hc 0 _ rfl, hc 1 _ rfl, hc 2 _ rfl, hc 3 _ rfl, hc 4 _ rfl, hc 5 _ rfl, hc 6 _ rfl, hc 7 _ rfl, hc 8 _ rfl, hc 9 _ rfl, hc 10 _ rfl⟩
theorem TrE.push {w wd w9 : World} {pv : Value} {l : List Nd} {AS : Option Addr} {sc q eb g cap : Nat} {st : List Tree} {cs : List Sl} {d : Nd} {mv bv kv : Value} {o : Obj} (h : TrE w wd pv l (.slice AS st.length sc) st cs d q eb mv bv kv) (hq : q ≤ st.length)
  (hown : w9.ownsRow (w.heap.size + 1) 35 11 (.slice (some ⟨g, 0, none⟩) (q + 1) cap) (q + 1) (((st.take q).zip (cs.take q)).flatMap ndL ++ ndL (.node d (st.drop q), mv, bv, kv))) (hg : (wd.alloc o).drew.grownBy w9 (Value.slice AS q sc).ownBlock) (hat : (Value.slice AS q sc).ownBlock = some g ∨ g = wd.heap.size + 1) :
  TrS w w9 pv l (.slice (some ⟨g, 0, none⟩) (q + 1) cap) (st.take q ++ [.node d (st.drop q)]) (cs.take q ++ [(mv, bv, kv)]) := by
 have hlen : (st.take q).length = q := by rw [List.length_take]; omega
 have hstk := ((h.s.stk.take q hq rfl).keep (bad1 wd o))
 have hbk := own_bk hstk.own
 have hz := h.s.below.size
 have hz1 : (wd.alloc o).drew.heap.size = wd.heap.size + 1 := by show (wd.alloc o).heap.size = _; simp
 have hbel : Below w.heap.size w w9 := by
  refine ((h.s.below.trans ((bad1 wd o).mono hz))).trans ?_
  exact ⟨hg.os, hg.tape, hg.output, hg.size, fun k hk => hg.block k (by omega) (fun e => by have := (hbk k e.symm).1; omega)⟩
 refine ⟨hbel, ?_, ?_, ?_⟩
 ·exact (hg.block w.heap.size (by have := h.s.z.lt; omega) (fun e => by have := (hbk _ e.symm).1; omega)).trans (((bad1 wd o).block _ h.s.z.lt).trans h.s.z)
 ·exact (h.s.pl.belo (bad1 wd o)).keep ⟨hg.size, fun b _ o' hp hb _ => World.cell?_of_block (a := ⟨b, o', none⟩) (hg.block b hb (fun e => by have := (hbk _ e.symm).1; omega))⟩
 ·have hT : TreeAt (wd.alloc o).drew (fun b _ => b ≠ w.heap.size ∧ (Value.slice AS q sc).ownBlock ≠ some b) (.node d (st.drop q)) (mv, bv, kv) := (h.t.belo (bad1 wd o)).mono fun b _ _ hp => ⟨hp.1, by cases AS <;> exact hp.2⟩
  have hp := StackC.push (g := g) (cap := cap) (w' := w9) (v := .slice AS q sc) (by exact hstk) hT hg (by rw [hz1]; exact hat) (by rw [hlen]; exact hown)
  rw [hlen] at hp
  exact hp
theorem stack_bot (A : Option Addr) (n c k : Nat) (hk : k ≤ c) (hc : c ≤ maxLen) (W : World) : (Instr.slice 33 (.slice A n c) none (some (.int .i64 (k : Int))) none).run Tryz.prog W = .ok (.slice A k c) W := by
 rw [run_slice_h W 33 A n c (by kernel_rfl) .i64 (k : Int) (by omega) (by omega)]
 have hs : (sizeOf (Tryz.prog.elem 33)).run Tryz.prog W = .ok 11 W := by kernel_rfl
 rw [hs]
 have ha : A.map (·.add 0) = A := by cases A <;> simp [Addr.add]
 simp only [Result.andThen, sliced, Int.toNat_natCast, Nat.zero_mul, Nat.sub_zero, ha, ite_self]
end
end Go.Proofs.YtpgdijbfkahepaaGreatDoor
