/- Contracts, packed: Js. -/
import Derived.Test.YthoibeajhdhdhaaDoorPp33
import Derived.Test.YthoibeajhdhdhaaDoorPp48
import Derived.Test.YthoibeajhdhdhaaDoorPp49
set_option linter.unusedVariables false
set_option linter.unusedSimpArgs false
namespace Go.Proofs.YthoibeajhdhdhaaDoor
section
open Go.RowKit FracM

def opL (n : Nat) : List UInt8 := match n with | 0 => [43] | 1 => [45] | 2 => [42] | _ => [47]
def opB (n : Nat) : ByteArray := match n with | 0 => ⟨#[43]⟩ | 1 => ⟨#[45]⟩ | 2 => ⟨#[42]⟩ | _ => ⟨#[47]⟩
def psN (x : UInt8) : Nd := ⟨1, 0, 0, 0, 0, 0, 0, ⟨#[x]⟩, [], []⟩
def psT (x : UInt8) : Tree := .node (psN x) []
def pbN (n : Nat) : Nd := ⟨3, (n : Int), 0, 0, 0, 0, 0, ⟨#[]⟩, [], []⟩
def leftT (i k : Nat) : Tree := .node (pbN k) [.node (pbN i) [psT 97, psT 98], psT 99]
def rightT (i k : Nat) : Tree := .node (pbN i) [psT 97, .node (pbN k) [psT 98, psT 99]]
def wantT (i k : Nat) : Tree := if i < 2 ∧ 2 ≤ k then rightT i k else leftT i k
def pres (s : List UInt8) (t : Tree) : Bool := let r := parseT s; eqT r.1 t && r.2.1 == 0 && r.2.2 == 0
theorem pres_eq {s : List UInt8} {t : Tree} (h : pres s t = true) : parseT s = (t, 0, 0) := by
  unfold pres at h
  generalize parseT s = r at h ⊢
  obtain ⟨a, b, c⟩ := r
  simp only [Bool.and_eq_true, beq_iff_eq] at h
  obtain ⟨⟨h1, h2⟩, h3⟩ := h
  have := (eqT_iff _ _).1 h1
  subst this h2 h3
  rfl
theorem prec_all : ((List.range 4).all fun i => (List.range 4).all fun k => pres ([97] ++ opL i ++ [98] ++ opL k ++ [99]) (wantT i k) && pres ([40, 97] ++ opL i ++ [98, 41] ++ opL k ++ [99]) (leftT i k) && pres ([97] ++ opL i ++ [40, 98] ++ opL k ++ [99, 41]) (rightT i k) && !(eqT (leftT i k) (rightT i k))) = true := by decide +kernel
theorem prec_at {i k : Nat} (hi : i < 4) (hk : k < 4) : parseT ([97] ++ opL i ++ [98] ++ opL k ++ [99]) = (wantT i k, 0, 0) ∧ parseT ([40, 97] ++ opL i ++ [98, 41] ++ opL k ++ [99]) = (leftT i k, 0, 0) ∧ parseT ([97] ++ opL i ++ [40, 98] ++ opL k ++ [99, 41]) = (rightT i k, 0, 0) ∧ eqT (leftT i k) (rightT i k) = false := by
  have h := List.all_eq_true.1 (List.all_eq_true.1 prec_all i (by simpa using hi)) k (by simpa using hk)
  simp only [Bool.and_eq_true, Bool.not_eq_true'] at h
  exact ⟨pres_eq h.1.1.1, pres_eq h.1.1.2, pres_eq h.1.2, h.2⟩
theorem opB_lst (n : Nat) : lst (opB n) = opL n := by
  match n with
  | 0 => rfl
  | 1 => rfl
  | 2 => rfl
  | _ + 3 => rfl
theorem opB_size (n : Nat) : (opB n).size = 1 := by
  match n with
  | 0 => rfl
  | 1 => rfl
  | 2 => rfl
  | _ + 3 => rfl
theorem sel_at (W : World) (x : UInt8) : TreeAt W AnyP (psT x) (nilV, nilV, nilV) :=
  kleaf_at (d := psN x) ⟨⟨(by unfold I64; decide : I64 1), (by unfold I64; decide : I64 0), (by unfold I64; decide : I64 0), (by unfold I64; decide : I64 0), (by unfold I64; decide : I64 0), (by unfold I64; decide : I64 0), (by unfold I64; decide : I64 0)⟩, by show (1 : Nat) ≤ maxLen; unfold maxLen; omega, fun m hm => by simp [psN] at hm, fun s hs => by simp [psN] at hs⟩ (SeqP.nil _ _ _) (SeqP.nil _ _ _)
theorem bin_at {w : World} {n : Nat} (hn : n ≤ 10) {e1 e2 : Nd} {es1 es2 : List Tree} {m1 v1 k1 m2 v2 k2 : Value} (h1 : TreeAt w AnyP (.node e1 es1) (m1, v1, k1)) (h2 : TreeAt w AnyP (.node e2 es2) (m2, v2, k2)) :
    TreeAt (w.alloc (.cells (kidC e1 m1 v1 k1 e2 m2 v2 k2) 29)) AnyP (.node (pbN n) [.node e1 es1, .node e2 es2]) (nilV, nilV, .slice (some ⟨w.heap.size, 0, none⟩) 2 2) := by
  have hkb : Blk (w.alloc (.cells (kidC e1 m1 v1 k1 e2 m2 v2 k2) 29)) w.heap.size 29 (kidC e1 m1 v1 k1 e2 m2 v2 k2) := Blk.new _ _ _
  have hb := bel1 w (.cells (kidC e1 m1 v1 k1 e2 m2 v2 k2) 29)
  generalize w.alloc (.cells (kidC e1 m1 v1 k1 e2 m2 v2 k2) 29) = W at *
  refine Nod.tree (d := pbN n) (ks := [.node e1 es1, .node e2 es2]) ⟨binOk n hn (.node e1 es1) (.node e2 es2), SeqP.nil _ _ _, SeqP.nil _ _ _, [(m1, v1, k1), (m2, v2, k2)], rfl, ?_, ?_⟩
  · have := SeqP.of_blk (P := AnyP) (n := 2) (size := 11) hkb rfl (by omega) trivial
    simpa [ndL, Tree.d] using this
  · intro i t' c h3 h4
    match i, h3, h4 with
    | 0, h3, h4 =>
      simp at h3 h4
      subst h3 h4
      exact h1.belo hb
    | 1, h3, h4 =>
      simp at h3 h4
      subst h3 h4
      exact h2.belo hb
    | j + 2, h3, h4 => simp at h3
/-- a variable that holds a tree -/
structure TBp (W : World) (g : Nat) (t : Tree) (s : Sl) : Prop where
  box : Blk W g 29 (ndC t.d s.1 s.2.1 s.2.2)
  tr : TreeAt W AnyP t s
theorem TBp.next {W W' : World} {g : Nat} {t : Tree} {s : Sl} (h : TBp W g t s) (hb : Below W.heap.size W W') : TBp W' g t s := ⟨h.box.below hb, (h.tr.low.keep (Agree.of_below hb)).mono fun _ _ _ _ => trivial⟩
theorem TBp.new {W : World} {t : Tree} {s : Sl} (h : TreeAt W AnyP t s) : TBp (W.alloc (.cells (ndC t.d s.1 s.2.1 s.2.2) 29)) W.heap.size t s := ⟨Blk.new _ _ _, (h.low.keep (Agree.of_below (bel1 _ _))).mono fun _ _ _ _ => trivial⟩
abbrev opsC : Array Value := #[.string ⟨#[43]⟩, .string ⟨#[45]⟩, .string ⟨#[42]⟩, .string ⟨#[47]⟩]
abbrev pxC (x : UInt8) : Array Value := #[.int .i64 1, .int .i64 0, .int .i64 0, .int .i64 0, .int .i64 0, .int .i64 0, .int .i64 0, .string ⟨#[x]⟩, .slice none 0 0, .slice none 0 0, .slice none 0 0]
structure PA (ty : Nat) (W : World) (gl ga gb gc : Nat) : Prop where
  l : Blk W gl ty opsC
  a : Blk W ga 29 (pxC 97)
  b : Blk W gb 29 (pxC 98)
  c : Blk W gc 29 (pxC 99)
theorem PA.next {ty : Nat} {W W' : World} {gl ga gb gc : Nat} (h : PA ty W gl ga gb gc) (hb : Below W.heap.size W W') : PA ty W' gl ga gb gc := ⟨h.l.below hb, h.a.below hb, h.b.below hb, h.c.below hb⟩
def wPA (w : World) (ty : Nat) : World := (((w.alloc (.cells opsC ty)).alloc (.cells (pxC 97) 29)).alloc (.cells (pxC 98) 29)).alloc (.cells (pxC 99) 29)
theorem PA.new (w : World) (ty : Nat) : PA ty (wPA w ty) w.heap.size (w.heap.size + 1) (w.heap.size + 1 + 1) (w.heap.size + 1 + 1 + 1) ∧ Below w.heap.size w (wPA w ty) ∧ (wPA w ty).heap.size = w.heap.size + 4 := by
  unfold wPA
  have h1 : Blk (w.alloc (.cells opsC ty)) w.heap.size ty opsC := Blk.new _ _ _
  have z1 : (w.alloc (.cells opsC ty)).heap.size = w.heap.size + 1 := by simp
  have b1 := bel1 w (.cells opsC ty)
  generalize w.alloc (.cells opsC ty) = w1 at *
  have h2 : Blk (w1.alloc (.cells (pxC 97) 29)) w1.heap.size 29 (pxC 97) := Blk.new _ _ _
  have z2 : (w1.alloc (.cells (pxC 97) 29)).heap.size = w1.heap.size + 1 := by simp
  have b2 := bel1 w1 (.cells (pxC 97) 29)
  generalize w1.alloc (.cells (pxC 97) 29) = w2 at *
  have h3 : Blk (w2.alloc (.cells (pxC 98) 29)) w2.heap.size 29 (pxC 98) := Blk.new _ _ _
  have z3 : (w2.alloc (.cells (pxC 98) 29)).heap.size = w2.heap.size + 1 := by simp
  have b3 := bel1 w2 (.cells (pxC 98) 29)
  generalize w2.alloc (.cells (pxC 98) 29) = w3 at *
  have h4 : Blk (w3.alloc (.cells (pxC 99) 29)) w3.heap.size 29 (pxC 99) := Blk.new _ _ _
  have z4 : (w3.alloc (.cells (pxC 99) 29)).heap.size = w3.heap.size + 1 := by simp
  have b4 := bel1 w3 (.cells (pxC 99) 29)
  generalize w3.alloc (.cells (pxC 99) 29) = w4 at *
  rw [show w.heap.size + 1 + 1 + 1 = w3.heap.size by omega, show w.heap.size + 1 + 1 = w2.heap.size by omega, show w.heap.size + 1 = w1.heap.size by omega]
  exact ⟨⟨((h1.below b2).below b3).below b4, (h2.below b3).below b4, h3.below b4, h4⟩, bthen (bthen (bthen b1 b2 (by omega)) b3 (by omega)) b4 (by omega), by omega⟩
theorem ops_cell {W : World} {g ty n : Nat} (h : Blk W g ty opsC) (hn : n < 4) : W.cell? ⟨g, n, none⟩ = some (.string (opB n)) := by
  unfold Blk at h
  match n, hn with
  | 0, _ => simp [World.cell?, h, opB]
  | 1, _ => simp [World.cell?, h, opB]
  | 2, _ => simp [World.cell?, h, opB]
  | 3, _ => simp [World.cell?, h, opB]
theorem px_cells {W : World} {g ty : Nat} {x : UInt8} (h : Blk W g ty (pxC x)) : W.cell? ⟨g, 0, none⟩ = some (.int .i64 1) ∧ W.cell? ⟨g, 1, none⟩ = some (.int .i64 0) ∧ W.cell? ⟨g, 2, none⟩ = some (.int .i64 0) ∧ W.cell? ⟨g, 3, none⟩ = some (.int .i64 0) ∧ W.cell? ⟨g, 4, none⟩ = some (.int .i64 0) ∧ W.cell? ⟨g, 5, none⟩ = some (.int .i64 0) ∧ W.cell? ⟨g, 6, none⟩ = some (.int .i64 0) ∧ W.cell? ⟨g, 7, none⟩ = some (.string ⟨#[x]⟩) ∧ W.cell? ⟨g, 8, none⟩ = some (.slice none 0 0) ∧ W.cell? ⟨g, 9, none⟩ = some (.slice none 0 0) ∧ W.cell? ⟨g, 10, none⟩ = some (.slice none 0 0) := by
  unfold Blk at h
  refine ⟨?_, ?_, ?_, ?_, ?_, ?_, ?_, ?_, ?_, ?_, ?_⟩ <;> simp [World.cell?, h]
theorem zx_cells {W : World} {g ty : Nat} {a0 a1 a2 a3 a4 a5 a6 a7 a8 a9 a10 : Value} (h : Blk W g ty #[a0, a1, a2, a3, a4, a5, a6, a7, a8, a9, a10]) : W.cell? ⟨g, 0, none⟩ = some a0 ∧ W.cell? ⟨g, 1, none⟩ = some a1 ∧ W.cell? ⟨g, 2, none⟩ = some a2 ∧ W.cell? ⟨g, 3, none⟩ = some a3 ∧ W.cell? ⟨g, 4, none⟩ = some a4 ∧ W.cell? ⟨g, 5, none⟩ = some a5 ∧ W.cell? ⟨g, 6, none⟩ = some a6 ∧ W.cell? ⟨g, 7, none⟩ = some a7 ∧ W.cell? ⟨g, 8, none⟩ = some a8 ∧ W.cell? ⟨g, 9, none⟩ = some a9 ∧ W.cell? ⟨g, 10, none⟩ = some a10 := by
  unfold Blk at h
  refine ⟨?_, ?_, ?_, ?_, ?_, ?_, ?_, ?_, ?_, ?_, ?_⟩ <;> simp [World.cell?, h]
abbrev pxK (x y : UInt8) : Array Value := kidC (psN x) nilV nilV nilV (psN y) nilV nilV nilV
abbrev k2 (g : Nat) : Value := .slice (some ⟨g, 0, none⟩) 2 2
def wLeft (W : World) (n m : Nat) : World := ((W.alloc (.cells (pxK 97 98) 29)).alloc (.cells (kidC (pbN n) nilV nilV (k2 W.heap.size) (psN 99) nilV nilV nilV) 29)).alloc (.cells (ndC (pbN m) nilV nilV (k2 (W.heap.size + 1))) 29)
theorem left_new (W : World) (n m : Nat) (hn : n < 4) (hm : m < 4) : TBp (wLeft W n m) (W.heap.size + 1 + 1) (leftT n m) (nilV, nilV, k2 (W.heap.size + 1)) ∧ Below W.heap.size W (wLeft W n m) ∧ (wLeft W n m).heap.size = W.heap.size + 3 := by
  unfold wLeft
  have h1 := bin_at (n := n) (by omega) (sel_at W 97) (sel_at W 98)
  have b1 := bel1 W (.cells (pxK 97 98) 29)
  have z1 : (W.alloc (.cells (pxK 97 98) 29)).heap.size = W.heap.size + 1 := by simp
  generalize W.alloc (.cells (pxK 97 98) 29) = w1 at *
  have h2 := bin_at (n := m) (by omega) h1 (sel_at w1 99)
  have b2 := bel1 w1 (.cells (kidC (pbN n) nilV nilV (k2 W.heap.size) (psN 99) nilV nilV nilV) 29)
  have z2 : (w1.alloc (.cells (kidC (pbN n) nilV nilV (k2 W.heap.size) (psN 99) nilV nilV nilV) 29)).heap.size = w1.heap.size + 1 := by simp
  generalize w1.alloc (.cells (kidC (pbN n) nilV nilV (k2 W.heap.size) (psN 99) nilV nilV nilV) 29) = w2 at *
  rw [← z1]
  have h3 := TBp.new h2
  have b3 := bel1 w2 (.cells (ndC (pbN m) nilV nilV (k2 w1.heap.size)) 29)
  have z3 : (w2.alloc (.cells (ndC (pbN m) nilV nilV (k2 w1.heap.size)) 29)).heap.size = w2.heap.size + 1 := by simp
  rw [← z2]
  exact ⟨h3, bthen (bthen b1 b2 (by omega)) b3 (by omega), by omega⟩
def wRight (W : World) (n m : Nat) : World := ((W.alloc (.cells (pxK 98 99) 29)).alloc (.cells (kidC (psN 97) nilV nilV nilV (pbN m) nilV nilV (k2 W.heap.size)) 29)).alloc (.cells (ndC (pbN n) nilV nilV (k2 (W.heap.size + 1))) 29)
theorem right_new (W : World) (n m : Nat) (hn : n < 4) (hm : m < 4) : TBp (wRight W n m) (W.heap.size + 1 + 1) (rightT n m) (nilV, nilV, k2 (W.heap.size + 1)) ∧ Below W.heap.size W (wRight W n m) ∧ (wRight W n m).heap.size = W.heap.size + 3 := by
  unfold wRight
  have h1 := bin_at (n := m) (by omega) (sel_at W 98) (sel_at W 99)
  have b1 := bel1 W (.cells (pxK 98 99) 29)
  have z1 : (W.alloc (.cells (pxK 98 99) 29)).heap.size = W.heap.size + 1 := by simp
  generalize W.alloc (.cells (pxK 98 99) 29) = w1 at *
  have h2 := bin_at (n := n) (by omega) (sel_at w1 97) h1
  have b2 := bel1 w1 (.cells (kidC (psN 97) nilV nilV nilV (pbN m) nilV nilV (k2 W.heap.size)) 29)
  have z2 : (w1.alloc (.cells (kidC (psN 97) nilV nilV nilV (pbN m) nilV nilV (k2 W.heap.size)) 29)).heap.size = w1.heap.size + 1 := by simp
  generalize w1.alloc (.cells (kidC (psN 97) nilV nilV nilV (pbN m) nilV nilV (k2 W.heap.size)) 29) = w2 at *
  rw [← z1]
  have h3 := TBp.new h2
  have b3 := bel1 w2 (.cells (ndC (pbN n) nilV nilV (k2 w1.heap.size)) 29)
  have z3 : (w2.alloc (.cells (ndC (pbN n) nilV nilV (k2 w1.heap.size)) 29)).heap.size = w2.heap.size + 1 := by simp
  rw [← z2]
  exact ⟨h3, bthen (bthen b1 b2 (by omega)) b3 (by omega), by omega⟩
theorem cat_steps (A B C O1 O2 : ByteArray) (hA : A.size ≤ 10) (hB : B.size ≤ 10) (hC : C.size ≤ 10) (h1 : O1.size ≤ 10) (h2 : O2.size ≤ 10) :
    ∃ x1 x2 x3 x4 : ByteArray, (∀ W : World, (Op.stringOp .add A O1).run Tryd.prog W = .ok (.string x1) W) ∧ (∀ W : World, (Op.stringOp .add x1 B).run Tryd.prog W = .ok (.string x2) W) ∧ (∀ W : World, (Op.stringOp .add x2 O2).run Tryd.prog W = .ok (.string x3) W) ∧ (∀ W : World, (Op.stringOp .add x3 C).run Tryd.prog W = .ok (.string x4) W) ∧ lst x4 = lst A ++ lst O1 ++ lst B ++ lst O2 ++ lst C ∧ x4.size ≤ maxLen := by
  refine ⟨A ++ O1, (A ++ O1) ++ B, ((A ++ O1) ++ B) ++ O2, (((A ++ O1) ++ B) ++ O2) ++ C, fun W => run_string_add_sum (P := Tryd.prog) (w := W) _ _ (by omega), fun W => run_string_add_sum (P := Tryd.prog) (w := W) _ _ (by rw [ByteArray.size_append]; omega), fun W => run_string_add_sum (P := Tryd.prog) (w := W) _ _ (by rw [ByteArray.size_append, ByteArray.size_append]; omega), fun W => run_string_add_sum (P := Tryd.prog) (w := W) _ _ (by rw [ByteArray.size_append, ByteArray.size_append, ByteArray.size_append]; omega), ?_, ?_⟩
  · simp [lst, ByteArray.data_append, Array.toList_append]
  · rw [ByteArray.size_append, ByteArray.size_append, ByteArray.size_append, ByteArray.size_append]; unfold maxLen; omega
theorem prec_x {n m : Nat} (A B C : ByteArray) (T : Tree) (hp : parseT (lst A ++ opL n ++ lst B ++ opL m ++ lst C) = (T, 0, 0)) (hA : A.size ≤ 10) (hB : B.size ≤ 10) (hC : C.size ≤ 10) :
    ∃ x1 x2 x3 x4 : ByteArray, (∀ W : World, (Op.stringOp .add A (opB n)).run Tryd.prog W = .ok (.string x1) W) ∧ (∀ W : World, (Op.stringOp .add x1 B).run Tryd.prog W = .ok (.string x2) W) ∧ (∀ W : World, (Op.stringOp .add x2 (opB m)).run Tryd.prog W = .ok (.string x3) W) ∧ (∀ W : World, (Op.stringOp .add x3 C).run Tryd.prog W = .ok (.string x4) W) ∧ Box (∀ W', WordsV W' → Calls Tryd.prog 8 #[.string x4] W' fun e w' => ∃ mv bv kv, e = .returned (.tuple #[.agg (ndC T.d mv bv kv), .int .i64 0, .int .i64 0]) ∧ TreeAt w' (fun b _ => W'.heap.size ≤ b) T (mv, bv, kv) ∧ Below W'.heap.size W' w') := by
  obtain ⟨x1, x2, x3, x4, a1, a2, a3, a4, hl, hs⟩ := cat_steps A B C (opB n) (opB m) hA hB hC (by rw [opB_size]; omega) (by rw [opB_size]; omega)
  refine ⟨x1, x2, x3, x4, a1, a2, a3, a4, ⟨fun W' h => parse_at _ _ _ _ _ hs h ?_⟩⟩
  rw [hl, opB_lst, opB_lst]
  exact hp
/-- the law's state: the operators' slice and the trees' variables -/
structure Ss (ty : Nat) (w W : World) (g0 : Nat) (l : List (Nat × Tree × Sl)) : Prop where
  below : Below w.heap.size w W
  ops : Blk W g0 ty opsC
  tb : ∀ x ∈ l, TBp W x.1 x.2.1 x.2.2
theorem Ss.next {ty : Nat} {w W W' : World} {g0 : Nat} {l : List (Nat × Tree × Sl)} (h : Ss ty w W g0 l) (hb : Below W.heap.size W W') : Ss ty w W' g0 l := ⟨bthen h.below hb (Nat.le_refl _), h.ops.below hb, fun x hx => (h.tb x hx).next hb⟩
theorem Ss.drew {ty : Nat} {w W : World} {g0 : Nat} {l : List (Nat × Tree × Sl)} (h : Ss ty w W g0 l) : Ss ty w W.drew g0 l := h.next (below_drewN W 1)
theorem Ss.cons {ty : Nat} {w W W1 : World} {g0 : Nat} {l : List (Nat × Tree × Sl)} {P : Nat → Nat → Prop} {T : Tree} {mv bv kv : Value} (h : Ss ty w W g0 l) (hT : TreeAt W1 P T (mv, bv, kv)) (hb : Below W.heap.size W W1) : Ss ty w (W1.alloc (.cells (ndC T.d mv bv kv) 29)) g0 ((W1.heap.size, T, (mv, bv, kv)) :: l) := by
  have h2 := (h.next hb).next (bel1 W1 (.cells (ndC T.d mv bv kv) 29))
  have hn : TBp (W1.alloc (.cells (ndC T.d mv bv kv) 29)) W1.heap.size T (mv, bv, kv) := TBp.new (s := (mv, bv, kv)) (hT.mono fun _ _ _ _ => trivial)
  refine ⟨h2.below, h2.ops, fun x hx => ?_⟩
  rcases List.mem_cons.1 hx with rfl | hx
  · exact hn
  · exact h2.tb x hx
theorem Ss.cons' {ty : Nat} {w W W1 : World} {g0 : Nat} {l : List (Nat × Tree × Sl)} {P : Nat → Nat → Prop} {T : Tree} {d : Nd} {ks : List Tree} {mv bv kv : Value} (h : Ss ty w W g0 l) (hTe : T = .node d ks) (hT : TreeAt W1 P (.node d ks) (mv, bv, kv)) (hb : Below W.heap.size W W1) : Ss ty w (W1.alloc (.cells (ndC d mv bv kv) 29)) g0 ((W1.heap.size, T, (mv, bv, kv)) :: l) := by
  subst hTe
  exact h.cons hT hb
theorem Ss.six {ty : Nat} {w W : World} {g0 : Nat} {x1 x2 x3 x4 x5 x6 : Nat × Tree × Sl} (h : Ss ty w W g0 [x1, x2, x3, x4, x5, x6]) : TBp W x1.1 x1.2.1 x1.2.2 ∧ TBp W x2.1 x2.2.1 x2.2.2 ∧ TBp W x3.1 x3.2.1 x3.2.2 ∧ TBp W x4.1 x4.2.1 x4.2.2 ∧ TBp W x5.1 x5.2.1 x5.2.2 ∧ TBp W x6.1 x6.2.1 x6.2.2 :=
  ⟨h.tb _ (by simp), h.tb _ (by simp), h.tb _ (by simp), h.tb _ (by simp), h.tb _ (by simp), h.tb _ (by simp)⟩
theorem Ss.put {ty : Nat} {w W0 W1 : World} {g0 : Nat} {l : List (Nat × Tree × Sl)} {P : Nat → Nat → Prop} {T : Tree} {d : Nd} {ks : List Tree} {mv bv kv a0 a1 a2 a3 a4 a5 a6 a7 a8 a9 a10 : Value} (h : Ss ty w W0 g0 l) (hb : Below W0.heap.size W0 W1) (hz : Blk W1 W0.heap.size 29 #[a0, a1, a2, a3, a4, a5, a6, a7, a8, a9, a10]) (hTe : T = .node d ks) (hT : TreeAt W1 P (.node d ks) (mv, bv, kv)) (hP : ∀ b (e : Nat), P b e → b ≠ W0.heap.size) :
    Ss ty w (put11 W1 W0.heap.size (.int .i64 d.kind) (.int .i64 d.fn) (.int .i64 d.win) (.int .i64 d.off) (.int .i64 d.k) (.int .i64 d.num) (.int .i64 d.den) (.string d.name) mv bv kv) g0 ((W0.heap.size, T, (mv, bv, kv)) :: l) := by
  subst hTe
  have ho : Only W0.heap.size W1 (put11 W1 W0.heap.size (.int .i64 d.kind) (.int .i64 d.fn) (.int .i64 d.win) (.int .i64 d.off) (.int .i64 d.k) (.int .i64 d.num) (.int .i64 d.den) (.string d.name) mv bv kv) := put11_only ..
  have hbl : Blk (put11 W1 W0.heap.size (.int .i64 d.kind) (.int .i64 d.fn) (.int .i64 d.win) (.int .i64 d.off) (.int .i64 d.k) (.int .i64 d.num) (.int .i64 d.den) (.string d.name) mv bv kv) W0.heap.size 29 (ndC d mv bv kv) := put11_blk hz
  generalize put11 W1 W0.heap.size (.int .i64 d.kind) (.int .i64 d.fn) (.int .i64 d.win) (.int .i64 d.off) (.int .i64 d.k) (.int .i64 d.num) (.int .i64 d.den) (.string d.name) mv bv kv = W' at *
  have h2 := h.next (hb.trans (ho.below (Nat.le_refl _) hb.size))
  refine ⟨h2.below, h2.ops, fun x hx => ?_⟩
  rcases List.mem_cons.1 hx with rfl | hx
  · exact ⟨hbl, (hT.keep (Agree.of_only ho hP)).mono fun _ _ _ _ => trivial⟩
  · exact h2.tb x hx
theorem want_alt {w W : World} {ty g0 n m gl gr gw : Nat} {kl kr : Nat} (h : Ss ty w W g0 [(gl, leftT n m, (nilV, nilV, k2 kl)), (gr, rightT n m, (nilV, nilV, k2 kr)), (gw, leftT n m, (nilV, nilV, k2 kl))]) (hl : TreeAt W (fun b _ => b < gw) (leftT n m) (nilV, nilV, k2 kl)) (hr : TreeAt W (fun b _ => b < gw) (rightT n m) (nilV, nilV, k2 kr)) (h0 : g0 < gw) (h1 : gl < gw) (h2 : gr < gw) (h3 : w.heap.size ≤ gw) (hc : n < 2 ∧ 2 ≤ m) :
    Ss ty w (put11 W gw (.int .i64 3) (.int .i64 (n : Int)) (.int .i64 0) (.int .i64 0) (.int .i64 0) (.int .i64 0) (.int .i64 0) (.string ⟨#[]⟩) nilV nilV (k2 kr)) g0 [(gl, leftT n m, (nilV, nilV, k2 kl)), (gr, rightT n m, (nilV, nilV, k2 kr)), (gw, wantT n m, (nilV, nilV, k2 kr))] := by
  rw [show wantT n m = rightT n m from if_pos hc]
  have b1 := h.tb _ (List.mem_cons_self ..)
  have b2 := h.tb _ (List.mem_cons_of_mem _ (List.mem_cons_self ..))
  have b3 := h.tb _ (List.mem_cons_of_mem _ (List.mem_cons_of_mem _ (List.mem_cons_self ..)))
  have ho : Only gw W (put11 W gw (.int .i64 3) (.int .i64 (n : Int)) (.int .i64 0) (.int .i64 0) (.int .i64 0) (.int .i64 0) (.int .i64 0) (.string ⟨#[]⟩) nilV nilV (k2 kr)) := put11_only ..
  have hbl : Blk (put11 W gw (.int .i64 3) (.int .i64 (n : Int)) (.int .i64 0) (.int .i64 0) (.int .i64 0) (.int .i64 0) (.int .i64 0) (.string ⟨#[]⟩) nilV nilV (k2 kr)) gw 29 (ndC (rightT n m).d nilV nilV (k2 kr)) := put11_blk b3.box
  generalize put11 W gw (.int .i64 3) (.int .i64 (n : Int)) (.int .i64 0) (.int .i64 0) (.int .i64 0) (.int .i64 0) (.int .i64 0) (.string ⟨#[]⟩) nilV nilV (k2 kr) = W' at *
  have tl : TreeAt W' AnyP (leftT n m) (nilV, nilV, k2 kl) := (hl.keep (Agree.of_only ho fun b e hb => by omega)).mono fun _ _ _ _ => trivial
  have tr : TreeAt W' AnyP (rightT n m) (nilV, nilV, k2 kr) := (hr.keep (Agree.of_only ho fun b e hb => by omega)).mono fun _ _ _ _ => trivial
  refine ⟨h.below.trans (ho.below h3 h.below.size), ho.blk h.ops (by omega), fun x hx => ?_⟩
  simp only [List.mem_cons, List.not_mem_nil, or_false] at hx
  rcases hx with rfl | rfl | rfl
  · exact ⟨ho.blk b1.box (by show gl ≠ gw; omega), tl⟩
  · exact ⟨ho.blk b2.box (by show gr ≠ gw; omega), tr⟩
  · exact ⟨hbl, tr⟩
end
end Go.Proofs.YthoibeajhdhdhaaDoor
