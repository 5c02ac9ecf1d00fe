/- Contracts, packed: Sj. -/
import Derived.Test.YtipafbppaaflcaaDoorPl20
import Derived.Test.YtipafbppaaflcaaDoorPl21
import Derived.ArgAppend
import Derived.Deep.DeepAppendRoom
set_option linter.unusedVariables false
set_option linter.unusedSimpArgs false
namespace Go.Proofs.YtipafbppaaflcaaDoor
section
open Go.RowKit FracM
/-- of the blocks from B to H only the cells behind the ends L have turned -/
structure SpF (B H : Nat) (L : Nat → Nat) (w w' : World) : Prop where
 os : w'.os = w.os
 tape : w'.tape = w.tape
 output : w'.output = w.output
 size : w.heap.size ≤ w'.heap.size
 block : ∀ k, k < w.heap.size → (k < B ∨ H ≤ k) → w'.heap[k]? = w.heap[k]?
 cell : ∀ b o, b < w.heap.size → o < L b → w'.cell? ⟨b, o, none⟩ = w.cell? ⟨b, o, none⟩
theorem SpF.refl (B H : Nat) (L : Nat → Nat) (w : World) : SpF B H L w w := ⟨rfl, rfl, rfl, Nat.le_refl _, fun _ _ _ => rfl, fun _ _ _ _ => rfl⟩
theorem SpF.below {B H : Nat} {L : Nat → Nat} {w w' : World} (h : SpF B H L w w') (hB : B ≤ w.heap.size) : Below B w w' := ⟨h.os, h.tape, h.output, h.size, fun k hk => h.block k (by omega) (.inl hk)⟩
theorem SpF.agree {B H : Nat} {L : Nat → Nat} {w w' : World} (h : SpF B H L w w') : Agree (fun b e => B ≤ b ∧ b < H ∧ e = L b) w w' := ⟨h.size, fun b e o hp hb ho => h.cell b o hb (hp.2.2 ▸ ho)⟩
theorem SpF.then_below {B H : Nat} {L : Nat → Nat} {w w1 w2 : World} (h : SpF B H L w w1) (k : Below w.heap.size w1 w2) : SpF B H L w w2 :=
 ⟨k.os.trans h.os, k.tape.trans h.tape, k.output.trans h.output, Nat.le_trans h.size k.size, fun j hj hb => (k.block j hj).trans (h.block j hj hb), fun b o hb ho => (World.cell?_of_block (a := ⟨b, o, none⟩) (k.block b hb)).trans (h.cell b o hb ho)⟩
theorem SpF.trans {B H : Nat} {L : Nat → Nat} {w w1 w2 : World} (h : SpF B H L w w1) (k : SpF B H L w1 w2) : SpF B H L w w2 :=
 ⟨k.os.trans h.os, k.tape.trans h.tape, k.output.trans h.output, Nat.le_trans h.size k.size, fun j hj hb => (k.block j (Nat.lt_of_lt_of_le hj h.size) hb).trans (h.block j hj hb), fun b o hb ho => (k.cell b o (Nat.lt_of_lt_of_le hb h.size) ho).trans (h.cell b o hb ho)⟩
/-- what an append onto a row may turn: blocks that R names with the row's end, behind that end -/
structure ApF (R : Nat → Nat → Prop) (z : Nat) (w w' : World) : Prop where
 os : w'.os = w.os
 tape : w'.tape = w.tape
 output : w'.output = w.output
 size : w.heap.size ≤ w'.heap.size
 block : ∀ k, k < w.heap.size → ¬ R k z → w'.heap[k]? = w.heap[k]?
 cell : ∀ b o, b < w.heap.size → o < z → w'.cell? ⟨b, o, none⟩ = w.cell? ⟨b, o, none⟩
theorem own_cell {w : World} {B t size n g c : Nat} {xs : List Value} (h : w.ownsRow B t size (.slice (some ⟨g, 0, none⟩) n c) n xs) (o : Nat) (ho : o < n * size) : w.cell? ⟨g, o, none⟩ = xs[o]? := by
 rcases h.2 with ⟨h2, _⟩ | ⟨g', cap, cur, h1, h2, h3, h4, h5, h6, h7⟩
 ·cases h2
 ·cases h1
  rw [← h7]
  simp [World.cell?, h3, List.getElem?_take, ho]
section
variable {P : Program} (w : World)
theorem run_append_sp (t ty e : TypeId) (i : TypeInfo) (z : Value) (size bytes : Nat) (h1 : P.underlying t = some (.slice e)) (h2 : P.info? e = some i) (h3 : i.zero = some z) (h4 : i.size = size) (h5 : i.bytes = bytes) (h6 : z.cells.size = size) (h7 : 0 < size)
  (R : Nat → Nat → Prop) (v : Value) (n : Nat) (xs : List Value) (hown : OwnP w R e size v n xs)
  (ad : Addr) (m c : Nat) (news : List Value) (hn : news.length = m * size) (hc : ∀ j u, news[j]? = some u → w.cell? (ad.add j) = some u) (h1c : ∀ u ∈ news, u.oneCell' = true)
  (hm : 0 < m) (b1 : n + m ≤ maxLen) (b2 : (n + m) * bytes ≤ 140737488355328) :
  ∃ g cap w', (Builtin.append_ #[t, t] ty #[v, .slice (some ad) m c]).run P w = .ok (.slice (some ⟨g, 0, none⟩) (n + m) cap) w' ∧
   OwnP w' (fun b _ => (R b (0 + n * size) ∧ b < w.heap.size) ∨ w.heap.size ≤ b) e size (.slice (some ⟨g, 0, none⟩) (n + m) cap) (n + m) (xs ++ news) ∧ ApF R (0 + n * size) w w' := by
 have fin : ∀ v' w', (Builtin.append_ #[t, t] ty #[v, .slice (some ad) m c]).run P w = .ok v' w' → w'.ownsRow w.heap.size e size v' (n + m) (xs ++ news) → w.grownBy w' none →
   ∃ g cap w', (Builtin.append_ #[t, t] ty #[v, .slice (some ad) m c]).run P w = .ok (.slice (some ⟨g, 0, none⟩) (n + m) cap) w' ∧
   OwnP w' (fun b _ => (R b (0 + n * size) ∧ b < w.heap.size) ∨ w.heap.size ≤ b) e size (.slice (some ⟨g, 0, none⟩) (n + m) cap) (n + m) (xs ++ news) ∧ ApF R (0 + n * size) w w' := by
  intro v' w' hr ho hgr
  rcases ho.2 with ⟨q1, q2⟩ | ⟨g, cap, cur, q1, q2⟩
  ·omega
  ·subst q1
   exact ⟨g, cap, w', hr, OwnP.of_own ho fun b c hb _ => .inr hb, hgr.os, hgr.tape, hgr.output, hgr.size, fun k hk _ => hgr.block k hk (by simp), fun b o hb ho => World.cell?_of_block (a := ⟨b, o, none⟩) (hgr.block b hb (by simp))⟩
 rcases hown.1.2 with ⟨hv, hn0⟩ | ⟨g, cap, cur, hv, hg0, hb, hncap, hcap, hcur, htake⟩
 ·obtain ⟨v', w', hrun, r1, r2, _⟩ := run_append_own (P := P) w w.heap.size t ty e i z size bytes h1 h2 h3 h4 h5 h6 h7 (.slice none 0 0) 0 [] (World.ownsRow_nil w _ e size) ad m c news hn hc h1c (by omega) (by rw [hn0] at b2; simpa using b2) (Nat.le_refl _)
  have hxs : xs = [] := List.eq_nil_of_length_eq_zero (by rw [hown.1.1, hn0]; simp)
  subst hv hxs
  rw [hn0] at fin ⊢
  exact fin v' w' hrun r1 r2
 ·have hgl := (Array.getElem?_eq_some_iff.1 hb).1
  have hR := hown.2 g cap hv
  by_cases hr : n + m ≤ cap
  ·subst hv
   obtain ⟨w', hrun, ho, hgr⟩ := run_append_own_spare (P := P) w 0 t ty e i size h1 h2 h4 g n cap xs hown.1 ad m c news hn hc h1c hr
   refine ⟨g, cap, w', hrun, ⟨ho, fun g' c' hv' => by cases hv'; exact .inl ⟨hR, hgl⟩⟩, hgr.os, hgr.tape, hgr.output, hgr.size, fun k hk hnr => hgr.block k hk (fun e => hnr (by cases e; exact hR)), fun b o hb2 ho2 => ?_⟩
   by_cases hbg : b = g
   ·subst hbg
    have q1 := own_cell ho o (by rw [Nat.add_mul]; omega)
    have q2 := own_cell hown.1 o (by omega)
    rw [q1, q2, List.getElem?_append_left (by rw [hown.1.1]; omega)]
   ·exact World.cell?_of_block (a := ⟨b, o, none⟩) (hgr.block b hb2 (fun e => hbg (by cases e; rfl)))
  ·have hown1 := hown.1
   rw [hv] at hown1
   obtain ⟨v', w', hrun, r1, r2⟩ := run_append_arg_grows (P := P) w t ty e i z size bytes h1 h2 h3 h4 h5 h6 h7 ⟨g, 0, none⟩ n cap xs hown.1.1 (fun j u hj => by
    have hjl : j < n * size := by have := (List.getElem?_eq_some_iff.1 hj).1; rw [hown.1.1] at this; exact this
    have := own_cell hown1 j hjl
    rw [Addr.add_lit, Nat.zero_add, this, hj]) ad m c news hn hc (by omega) b1 b2
   subst hv
   exact fin v' w' hrun r1 r2
theorem wp_append_sp {o : Oper} {a : Act} {K : Act → World → Prop} {Q : Exit → Act → World → Prop} (s x : Operand) (t : TypeId)
  (ho : o.op = .call { callee := .builtin .append, args := #[s, x], argTypes := #[t, t] })
  (e : TypeId) (i : TypeInfo) (z : Value) (size bytes : Nat) (h1 : P.underlying t = some (.slice e)) (h2 : P.info? e = some i) (h3 : i.zero = some z) (h4 : i.size = size) (h5 : i.bytes = bytes) (h6 : z.cells.size = size) (h7 : 0 < size)
  (R : Nat → Nat → Prop) (v : Value) (n : Nat) (xs : List Value) (hs : a.eval s = v) (hown : OwnP w R e size v n xs)
  (ad : Addr) (m c : Nat) (news : List Value) (hx : a.eval x = .slice (some ad) m c) (hn : news.length = m * size) (hc : ∀ j u, news[j]? = some u → w.cell? (ad.add j) = some u) (h1c : ∀ u ∈ news, u.oneCell' = true)
  (hm : 0 < m) (b1 : n + m ≤ maxLen) (b2 : (n + m) * bytes ≤ 140737488355328)
  (h : ∀ g cap w', OwnP w' (fun b _ => (R b (0 + n * size) ∧ b < w.heap.size) ∨ w.heap.size ≤ b) e size (.slice (some ⟨g, 0, none⟩) (n + m) cap) (n + m) (xs ++ news) → ApF R (0 + n * size) w w' → K (a.put o.dst (.slice (some ⟨g, 0, none⟩) (n + m) cap)) w') : o.wp P a w K Q := by
 obtain ⟨g, cap, w', hr, r1, r2⟩ := run_append_sp (P := P) w t o.type e i z size bytes h1 h2 h3 h4 h5 h6 h7 R v n xs hown ad m c news hn hc h1c hm b1 b2
 unfold Oper.wp execOp
 simp only [ho, resolve, invoke, builtin, Sem.run_bind, Sem.run_pure, Result.andThen_ok, List.map_toArray, List.map_cons, List.map_nil, hs, hx, hr]
 exact h g cap w' r1 r2
theorem wpList_append_sp {ops : Array Oper} {rest : List Oper} {o : Oper} {a : Act} {Q : Exit → Act → World → Prop} (hgd : o.guard = none) (s x : Operand) (t : TypeId)
  (ho : o.op = .call { callee := .builtin .append, args := #[s, x], argTypes := #[t, t] })
  (e : TypeId) (i : TypeInfo) (z : Value) (size bytes : Nat) (h1 : P.underlying t = some (.slice e)) (h2 : P.info? e = some i) (h3 : i.zero = some z) (h4 : i.size = size) (h5 : i.bytes = bytes) (h6 : z.cells.size = size) (h7 : 0 < size)
  (R : Nat → Nat → Prop) (v : Value) (n : Nat) (xs : List Value) (hs : a.eval s = v) (hown : OwnP w R e size v n xs)
  (ad : Addr) (m c : Nat) (news : List Value) (hx : a.eval x = .slice (some ad) m c) (hn : news.length = m * size) (hc : ∀ j u, news[j]? = some u → w.cell? (ad.add j) = some u) (h1c : ∀ u ∈ news, u.oneCell' = true)
  (hm : 0 < m) (b1 : n + m ≤ maxLen) (b2 : (n + m) * bytes ≤ 140737488355328)
  (h : ∀ g cap w', OwnP w' (fun b _ => (R b (0 + n * size) ∧ b < w.heap.size) ∨ w.heap.size ≤ b) e size (.slice (some ⟨g, 0, none⟩) (n + m) cap) (n + m) (xs ++ news) → ApF R (0 + n * size) w w' → wpList P ops Q rest (a.put o.dst (.slice (some ⟨g, 0, none⟩) (n + m) cap)) w') : wpList P ops Q (o :: rest) a w :=
 wpList_plain hgd fun _ hK => wp_append_sp w s x t ho e i z size bytes h1 h2 h3 h4 h5 h6 h7 R v n xs hs hown ad m c news hx hn hc h1c hm b1 b2 fun g cap w' r1 r2 => hK _ _ (h g cap w' r1 r2)
theorem step_append_sp {ops : Array Oper} {o : Oper} {a : Act} {K : Act → World → Prop} {Q : Exit → Act → World → Prop} {E : Prop} (hgd : o.guard = none) (s x : Operand) (t : TypeId)
  (ho : o.op = .call { callee := .builtin .append, args := #[s, x], argTypes := #[t, t] })
  (e : TypeId) (i : TypeInfo) (z : Value) (size bytes : Nat) (h1 : P.underlying t = some (.slice e)) (h2 : P.info? e = some i) (h3 : i.zero = some z) (h4 : i.size = size) (h5 : i.bytes = bytes) (h6 : z.cells.size = size) (h7 : 0 < size)
  (R : Nat → Nat → Prop) (v : Value) (n : Nat) (xs : List Value) (hs : a.eval s = v) (hown : OwnP w R e size v n xs)
  (ad : Addr) (m c : Nat) (news : List Value) (hx : a.eval x = .slice (some ad) m c) (hn : news.length = m * size) (hc : ∀ j u, news[j]? = some u → w.cell? (ad.add j) = some u) (h1c : ∀ u ∈ news, u.oneCell' = true)
  (hm : 0 < m) (b1 : n + m ≤ maxLen) (b2 : (n + m) * bytes ≤ 140737488355328)
  (h : ∀ g cap w', OwnP w' (fun b _ => (R b (0 + n * size) ∧ b < w.heap.size) ∨ w.heap.size ≤ b) e size (.slice (some ⟨g, 0, none⟩) (n + m) cap) (n + m) (xs ++ news) → ApF R (0 + n * size) w w' → K (a.put o.dst (.slice (some ⟨g, 0, none⟩) (n + m) cap)) w') :
  if Region.wanted o (yielded ops a.tmps) = true then Oper.wp P o a w K Q else E := by
 have hw : Region.wanted o (yielded ops a.tmps) = true := by simp [Region.wanted, hgd]
 rw [if_pos hw]
 exact wp_append_sp w s x t ho e i z size bytes h1 h2 h3 h4 h5 h6 h7 R v n xs hs hown ad m c news hx hn hc h1c hm b1 b2 h
end
/-- the state of a changed node: its own copy, the result's block -/
structure Ch (w W : World) (B H : Nat) (L : Nat → Nat) (d : Nd) (mv bv kv : Value) : Prop where
 fr : SpF B H L w W
 e : Blk W w.heap.size 29 (ndC d mv bv kv)
 z : Blk W (w.heap.size + 1) 29 zeroC
theorem Ch.start (w : World) (B H : Nat) (L : Nat → Nat) (d : Nd) (mv bv kv : Value) : Ch w ((w.alloc (.cells (ndC d mv bv kv) 29)).alloc (.cells zeroC 29)) B H L d mv bv kv :=
 ⟨.then_below (.refl _ _ _ _) (bel2 _ _ _), (Blk.new _ _ _).alloc _, Blk.newAt _ _ (by simp)⟩
theorem Ch.below {w W W' : World} {B H : Nat} {L : Nat → Nat} {d : Nd} {mv bv kv : Value} (h : Ch w W B H L d mv bv kv) (f : Below W.heap.size W W') : Ch w W' B H L d mv bv kv :=
 ⟨h.fr.then_below (f.mono h.fr.size), h.e.below f, h.z.below f⟩
theorem Ch.set {w W : World} {B H : Nat} {L : Nat → Nat} {d d' : Nd} {mv bv kv mv' bv' kv' : Value} (h : Ch w W B H L d mv bv kv) (k : Nat) (u : Value) (hd : (ndC d mv bv kv).setIfInBounds k u = ndC d' mv' bv' kv') : Ch w (W.setCell ⟨w.heap.size, k, none⟩ u) B H L d' mv' bv' kv' :=
 ⟨h.fr.then_below ((Below.refl _ W).setCell (p := ⟨w.heap.size, k, none⟩) (Nat.le_refl _) u), by have := h.e.set k u; rw [hd] at this; exact this, (Only.setCell (g := w.heap.size) k u).blk h.z (by omega)⟩
/-- where a row of a changed node may lie: behind its old end in an old block, or in a new block -/
def SpP (B H F : Nat) (L : Nat → Nat) : Nat → Nat → Prop := fun b e => (B ≤ b ∧ b < H ∧ L b ≤ e) ∨ F ≤ b
theorem Ch.app {w W W' : World} {B H : Nat} {L : Nat → Nat} {d : Nd} {mv bv kv : Value} {z : Nat} (h : Ch w W B H L d mv bv kv) (hH : H ≤ w.heap.size) (f : ApF (SpP B H (w.heap.size + 2) L) z W W') : Ch w W' B H L d mv bv kv := by
 have h0 := h.fr.size
 refine ⟨⟨f.os.trans h.fr.os, f.tape.trans h.fr.tape, f.output.trans h.fr.output, Nat.le_trans h0 f.size, fun k hk hb => (f.block k (by omega) ?_).trans (h.fr.block k hk hb), fun b o hb ho => ?_⟩, ?_, ?_⟩
 ·rintro (⟨q1, q2, q3⟩ | q)
  ·omega
  ·omega
 ·by_cases hr : SpP B H (w.heap.size + 2) L b z
  ·rcases hr with ⟨q1, q2, q3⟩ | q
   ·exact (f.cell b o (by omega) (by omega)).trans (h.fr.cell b o hb ho)
   ·omega
  ·exact (World.cell?_of_block (a := ⟨b, o, none⟩) (f.block b (by omega) hr)).trans (h.fr.cell b o hb ho)
 ·refine (f.block _ h.e.lt ?_).trans h.e
  rintro (⟨q1, q2, q3⟩ | q)
  ·omega
  ·omega
 ·refine (f.block _ h.z.lt ?_).trans h.z
  rintro (⟨q1, q2, q3⟩ | q)
  ·omega
  ·omega
theorem OwnP.sp {w : World} {B H F t size n : Nat} {L : Nat → Nat} {v : Value} {xs : List Value} (h : OwnP w (fun b e => B ≤ b ∧ b < H ∧ e = L b) t size v n xs) : OwnP w (SpP B H F L) t size v n xs :=
 h.mono fun b e _ hp => .inl ⟨hp.1, hp.2.1, by omega⟩
/-- the row behind an append -/
theorem OwnP.apped {W W' : World} {B H F t size n m : Nat} {L : Nat → Nat} {v : Value} {xs : List Value} (hF : F ≤ W.heap.size) (h : OwnP W' (fun b _ => (SpP B H F L b (0 + n * size) ∧ b < W.heap.size) ∨ W.heap.size ≤ b) t size v (n + m) xs) : OwnP W' (SpP B H F L) t size v (n + m) xs :=
 ⟨h.1, fun g c hv => by
  rcases h.2 g c hv with ⟨⟨q1, q2, q3⟩ | q, q4⟩ | q
  ·exact .inl ⟨q1, q2, by rw [Nat.add_mul]; omega⟩
  ·exact .inr q
  ·exact .inr (Nat.le_trans hF q)⟩
/-- old blocks below H, or blocks from F on -/
def FrP (H F : Nat) : Nat → Nat → Prop := fun b _ => b < H ∨ F ≤ b
/-- a changed tree is returned -/
def RetSp (B H : Nat) (L : Nat → Nat) (t : Tree) (w : World) (e : Ending) (w' : World) : Prop :=
 ∃ t' s', e = .returned (.agg (ndC t'.d s'.1 s'.2.1 s'.2.2)) ∧ TreeAt w' (FrP H w.heap.size) t' s' ∧ dep t' ≤ dep t + 1 ∧ nds t' ≤ nds t + 1 ∧ SpF B H L w w'
def ChPost (w : World) (B H : Nat) (L : Nat → Nat) (t : Tree) (wx : World) : Prop :=
 ∃ d' ks' mv' bv' kv', Ch w wx B H L d' mv' bv' kv' ∧ TreeAt wx (FrP H (w.heap.size + 2)) (.node d' ks') (mv', bv', kv') ∧ dep (.node d' ks') ≤ dep t + 1 ∧ nds (.node d' ks') ≤ nds t + 1
theorem Ch.nod {w wx : World} {B H : Nat} {L : Nat → Nat} {d d' : Nd} {ks : List Tree} {mv bv kv mv' bv' kv' : Value} (h : Ch w wx B H L d' mv' bv' kv') (hT : TreeG w (fun b e => B ≤ b ∧ b < H ∧ e = L b) (.node d ks) (mv, bv, kv)) : Nod wx (FrP H (w.heap.size + 2)) d ks mv bv kv :=
 ((hT.tree.keep h.fr.agree).mono fun _ _ _ hp => .inl hp.2.1).nod
theorem SpP.fr {B H F : Nat} {L : Nat → Nat} {b e : Nat} (h : SpP B H F L b e) : FrP H F b e := by
 rcases h with ⟨q1, q2, q3⟩ | q
 ·exact .inl q2
 ·exact .inr q
theorem ch_field {w wx : World} {B H : Nat} {L : Nat → Nat} {d d' : Nd} {ks : List Tree} {mv bv kv : Value} (h : Ch w wx B H L d' mv bv kv) (hT : TreeG w (fun b e => B ≤ b ∧ b < H ∧ e = L b) (.node d ks) (mv, bv, kv)) (hms : d'.ms = d.ms) (hbs : d'.bys = d.bys) (hok : NdOk d') : ChPost w B H L (.node d ks) wx := by
 have hn := h.nod hT
 refine ⟨d', ks, mv, bv, kv, h, Nod.tree ⟨hok, by rw [hms]; exact hn.ms, by rw [hbs]; exact hn.bys, hn.kids⟩, ?_, ?_⟩
 ·rw [dep, dep]; omega
 ·rw [nds, nds]; omega
theorem ch_ms {w wx : World} {B H : Nat} {L : Nat → Nat} {d d' : Nd} {ks : List Tree} {mv bv kv mv' : Value} (h : Ch w wx B H L d' mv' bv kv) (hT : TreeG w (fun b e => B ≤ b ∧ b < H ∧ e = L b) (.node d ks) (mv, bv, kv)) (hms : OwnP wx (SpP B H (w.heap.size + 2) L) 71 3 mv' d'.ms.length (d'.ms.flatMap matCells)) (hbs : d'.bys = d.bys) (hok : NdOk d') : ChPost w B H L (.node d ks) wx := by
 have hn := h.nod hT
 refine ⟨d', ks, mv', bv, kv, h, Nod.tree ⟨hok, hms.seq.mono fun _ _ _ hp => hp.fr, by rw [hbs]; exact hn.bys, hn.kids⟩, ?_, ?_⟩
 ·rw [dep, dep]; omega
 ·rw [nds, nds]; omega
theorem ch_bys {w wx : World} {B H : Nat} {L : Nat → Nat} {d d' : Nd} {ks : List Tree} {mv bv kv bv' : Value} (h : Ch w wx B H L d' mv bv' kv) (hT : TreeG w (fun b e => B ≤ b ∧ b < H ∧ e = L b) (.node d ks) (mv, bv, kv)) (hbs : OwnP wx (SpP B H (w.heap.size + 2) L) 9 1 bv' d'.bys.length (d'.bys.map Value.string)) (hms : d'.ms = d.ms) (hok : NdOk d') : ChPost w B H L (.node d ks) wx := by
 have hn := h.nod hT
 refine ⟨d', ks, mv, bv', kv, h, Nod.tree ⟨hok, by rw [hms]; exact hn.ms, hbs.seq.mono fun _ _ _ hp => hp.fr, hn.kids⟩, ?_, ?_⟩
 ·rw [dep, dep]; omega
 ·rw [nds, nds]; omega
theorem depL_app (ks : List Tree) (t : Tree) : depL (ks ++ [t]) = max (depL ks) (dep t) := by
 induction ks with
 | nil => simp [depL]
 | cons x xs ih => rw [List.cons_append, depL, depL, ih]; omega
theorem ndsL_app (ks : List Tree) (t : Tree) : ndsL (ks ++ [t]) = ndsL ks + nds t := by
 induction ks with
 | nil => simp [ndsL]
 | cons x xs ih => rw [List.cons_append, ndsL, ndsL, ih]; omega
/-- the node that is put behind a node's kids -/
def leafN : Nd := ⟨0, 0, 0, 0, 0, 0, 1, ⟨#[]⟩, [], []⟩
theorem leafN_ok : NdOk leafN := ⟨by simp [leafN, I64], by show (0 : Nat) ≤ maxLen; omega, by simp [leafN], by simp [leafN]⟩
theorem leaf_at (w : World) (P : Nat → Nat → Prop) : TreeAt w P (.node leafN []) (nilV, nilV, nilV) := .mk _ _ _ _ _ [] leafN_ok (SeqP.nil _ _ _) (SeqP.nil _ _ _) rfl (SeqP.nil _ _ _) (fun i t c h => by simp at h)
/-- kids with one more behind them -/
theorem kids_add {w : World} {ks : List Tree} {cs : List Sl} {kv : Value} {R Q : Nat → Nat → Prop} (hRQ : ∀ b e, R b e → Q b e) {t : Tree} {s : Sl} (hl : cs.length = ks.length) (hk : OwnP w R 29 11 kv (ks.length + 1) ((ks.zip cs).flatMap ndL ++ ndL (t, s))) (hr : ∀ (i : Nat) (t : Tree) (c : Sl), ks[i]? = some t → cs[i]? = some c → TreeAt w Q t c) (ht : TreeAt w Q t s) :
  ∃ cs' : List Sl, cs'.length = (ks ++ [t]).length ∧ SeqP w Q 11 kv (ks ++ [t]).length (((ks ++ [t]).zip cs').flatMap ndL) ∧ ∀ (i : Nat) (t' : Tree) (c : Sl), (ks ++ [t])[i]? = some t' → cs'[i]? = some c → TreeAt w Q t' c := by
 refine ⟨cs ++ [s], by simp [hl], ?_, fun i t' c h1 h2 => ?_⟩
 ·rw [List.zip_append hl.symm, List.flatMap_append]
  have := hk.seq.mono (Q := Q) fun _ _ _ hp => hRQ _ _ hp
  simpa using this
 ·by_cases hi : i < ks.length
  ·rw [List.getElem?_append_left hi] at h1
   rw [List.getElem?_append_left (by omega)] at h2
   exact hr i t' c h1 h2
  ·rw [List.getElem?_append_right (by omega)] at h1
   rw [List.getElem?_append_right (by omega)] at h2
   rw [hl] at h2
   match hj : i - ks.length, h1, h2 with
   | 0, h1, h2 => simp at h1 h2; subst h1 h2; exact ht
   | j + 1, h1, h2 => simp at h1
theorem ch_kids {w wx : World} {B H : Nat} {L : Nat → Nat} {d : Nd} {ks : List Tree} {cs : List Sl} {mv bv kv kv' : Value} (h : Ch w wx B H L d mv bv kv') (hT : TreeG w (fun b e => B ≤ b ∧ b < H ∧ e = L b) (.node d ks) (mv, bv, kv)) (hl : cs.length = ks.length) (hr : ∀ (i : Nat) (t : Tree) (c : Sl), ks[i]? = some t → cs[i]? = some c → TreeG w (fun b e => B ≤ b ∧ b < H ∧ e = L b) t c)
  (hk : OwnP wx (SpP B H (w.heap.size + 2) L) 29 11 kv' (ks.length + 1) ((ks.zip cs).flatMap ndL ++ ndL (.node leafN [], nilV, nilV, nilV))) : ChPost w B H L (.node d ks) wx := by
 have hn := h.nod hT
 refine ⟨d, ks ++ [.node leafN []], mv, bv, kv', h, Nod.tree ⟨hn.ok, hn.ms, hn.bys, kids_add (fun _ _ hp => hp.fr) hl hk (fun i t c h1 h2 => ((hr i t c h1 h2).tree.keep h.fr.agree).mono fun _ _ _ hp => .inl hp.2.1) (leaf_at _ _)⟩, ?_, ?_⟩
 ·rw [dep, dep, depL_app, dep, depL]; omega
 ·rw [nds, nds, ndsL_app, nds, ndsL]; omega
end
end Go.Proofs.YtipafbppaaflcaaDoor
