/- Contracts, packed: Ud Jo Jp Jq. -/
import Derived.Test.YtipafbppaaflcaaDoorPl10
import Derived.Test.YtipafbppaaflcaaDoorPl21
import Derived.Test.YtipafbppaaflcaaDoorPl33
import Derived.Test.YtipafbppaaflcaaDoorPl34
set_option linter.unusedVariables false
set_option linter.unusedSimpArgs false
namespace Go.Proofs.YtipafbppaaflcaaDoor
section
open Go.RowKit FracM
theorem postL_app (a b : List Tree) : postL (a ++ b) = postL a ++ postL b := by
 induction a with
 | nil => rfl
 | cons t r ih => rw [List.cons_append, postL, postL, ih, List.append_assoc]
theorem stackM_back : ∀ (l : List Nd) (st st' : List Tree), stackM l st = some st' → postL st' = postL st ++ l := by
 intro l
 induction l with
 | nil => intro st st' h; rw [stackM] at h; cases h; rw [List.append_nil]
 | cons d r ih =>
  intro st st' h
  rw [stackM] at h
  split at h
  ·rw [ih _ _ h, postL_app, postL, postT, postL, List.append_nil, ← List.append_assoc (postL (st.take _)), ← postL_app, List.take_append_drop, List.append_assoc]
   rfl
  ·cases h
/-- a plan is what its tree is compiled to -/
theorem tree_back {l : List Nd} {t : Tree} (h : treeM l = (t, 0)) : postT t = l ∧ validE t = 0 := by
 unfold treeM at h
 split at h
 ·simp at h
 ·split at h
  ·next u hu =>
   split at h
   ·next hv =>
    simp only [Prod.mk.injEq, and_true] at h
    subst h
    have := stackM_back l [] [u] hu
    simp only [postL, List.append_nil, List.nil_append] at this
    exact ⟨this, hv⟩
   ·next hv => simp only [Prod.mk.injEq] at h; exact absurd h.2 hv
  ·simp at h
theorem validE_chk {t : Tree} (h : validE t = 0) : chk t = 0 := by
 unfold validE at h
 split at h
 ·cases h
 ·exact h
theorem post_chk1 : ∀ t, chk t = 0 → ∀ d ∈ postT t, ∃ n, chk1 d n = 0 := Tree.ind fun d ks ih h e he => by
 obtain ⟨h1, h2⟩ := chk_ok h
 rw [postT] at he
 rcases List.mem_append.1 he with he | he
 ·have : ∀ (l : List Tree), (∀ t ∈ l, t ∈ ks) → e ∈ postL l → ∃ n, chk1 e n = 0 := by
   intro l
   induction l with
   | nil => intro _ h; cases h
   | cons x xs ihx =>
    intro hl h
    rw [postL] at h
    rcases List.mem_append.1 h with h | h
    ·exact ih x (hl x (by simp)) (h2 x (hl x (by simp))) e h
    ·exact ihx (fun t ht => hl t (by simp [ht])) h
  exact this ks (fun t ht => ht) he
 ·simp only [List.mem_singleton] at he
  subst he
  exact ⟨_, h1⟩
theorem chk1_rng {d : Nd} {n : Nat} (h : chk1 d n = 0) : rangedB d = true := by
 unfold chk1 at h
 cases hr : rangedB d with
 | true => rfl
 | false =>
  rw [hr] at h
  split at h
  ·cases h
  split at h
  ·cases h
  split at h
  ·cases h
  simp at h
/-- the instructions of a valid plan -/
theorem plan_rng {l : List Nd} (h : (treeM l).2 = 0) : ∀ d ∈ l, rangedB d = true := by
 intro d hd
 obtain ⟨h1, h2⟩ := tree_back (t := (treeM l).1) (by rw [← h])
 rw [← h1] at hd
 obtain ⟨n, hn⟩ := post_chk1 _ (validE_chk h2) d hd
 exact chk1_rng hn
theorem firstM_le {d : Nd} (h : rangedB d = true) (hk : d.kind = 1) : firstM d ≤ 0 := by
 unfold rangedB at h
 rw [if_pos hk] at h
 simp only [Bool.and_eq_true, decide_eq_true_eq] at h
 unfold firstM
 by_cases h0 : d.fn = 0
 ·rw [if_pos h0]; omega
 ·rw [if_neg h0] at h
  simp only [Bool.and_eq_true, decide_eq_true_eq] at h
  rw [if_neg h0]
  split <;> omega
/-- the reference's first tick -/
def firstR (d : Nd) : Int := if d.kind = 1 then (if d.fn ≠ 0 ∧ d.fn ≠ 5 ∧ d.fn ≠ 6 then -d.off - d.win + 1 else -d.off - d.win) else 0
def rreachL (r : Int) (l : List Nd) : Int := l.foldl (fun r d => min r (firstR d)) r
theorem first_same {d : Nd} (h : rangedB d = true) (hk : d.kind = 1) : firstR d = firstM d := by
 unfold rangedB at h
 rw [if_pos hk] at h
 simp only [Bool.and_eq_true, decide_eq_true_eq] at h
 unfold firstR firstM
 rw [if_pos hk]
 by_cases h0 : d.fn = 0
 ·rw [if_pos h0] at h ⊢
  simp only [Bool.and_eq_true, beq_iff_eq] at h
  rw [if_neg (by omega)]; omega
 ·rw [if_neg h0]
  by_cases h5 : d.fn = 5 ∨ d.fn = 6
  ·rw [if_pos h5, if_neg (by omega)]
  ·rw [if_neg h5, if_pos (by omega)]; omega
theorem reach_le : ∀ (l : List Nd) (r : Int), reachL r l ≤ r := by
 intro l
 induction l with
 | nil => intro r; exact Int.le_refl _
 | cons d q ih =>
  intro r
  show reachL (if d.kind = 1 then min r (firstM d) else r) q ≤ r
  refine Int.le_trans (ih _) ?_
  split <;> omega
theorem reach_same : ∀ (l : List Nd) (r : Int), (∀ d ∈ l, rangedB d = true) → r ≤ 0 → rreachL r l = reachL r l := by
 intro l
 induction l with
 | nil => intro r _ _; rfl
 | cons d q ih =>
  intro r h hr
  show rreachL (min r (firstR d)) q = reachL (if d.kind = 1 then min r (firstM d) else r) q
  by_cases hk : d.kind = 1
  ·rw [if_pos hk, first_same (h d (by simp)) hk]
   exact ih _ (fun e he => h e (by simp [he])) (by omega)
  ·rw [if_neg hk, show firstR d = 0 from if_neg hk, show min r 0 = r by omega]
   exact ih _ (fun e he => h e (by simp [he])) hr
theorem reach_app (r : Int) (a b : List Nd) : reachL r (a ++ b) = reachL (reachL r a) b := by unfold reachL; rw [List.foldl_append]
theorem reach_min : ∀ (l : List Nd) (a b : Int), reachL (min a b) l = min a (reachL b l) := by
 intro l
 induction l with
 | nil => intro a b; rfl
 | cons d q ih =>
  intro a b
  show reachL (if d.kind = 1 then min (min a b) (firstM d) else min a b) q = min a (reachL (if d.kind = 1 then min b (firstM d) else b) q)
  by_cases hk : d.kind = 1
  ·rw [if_pos hk, if_pos hk, show min (min a b) (firstM d) = min a (min b (firstM d)) by omega, ih]
  ·rw [if_neg hk, if_neg hk, ih]
/-- the reach of a sum -/
theorem reach_sum (a b : List Nd) (d : Nd) (hd : d.kind ≠ 1) : reachL 0 (a ++ (b ++ [d])) = min (reachL 0 a) (reachL 0 b) := by
 rw [reach_app, reach_app]
 show (if d.kind = 1 then min (reachL (reachL 0 a) b) (firstM d) else reachL (reachL 0 a) b) = _
 rw [if_neg hd]
 have h : reachL 0 a = min (reachL 0 a) 0 := by have := reach_le a 0; omega
 rw [h, reach_min, ← h]
/-- an expression's offsets increased -/
def shN (k : Int) (d : Nd) : Nd := if d.kind = 1 then { d with off := d.off + k } else d
mutual
def shT (k : Int) : Tree → Tree
 | .node d ks => .node (shN k d) (shL k ks)
def shL (k : Int) : List Tree → List Tree
 | [] => []
 | t :: ts => shT k t :: shL k ts
end
theorem shL_map (k : Int) (l : List Tree) : shL k l = l.map (shT k) := by
 induction l with
 | nil => rfl
 | cons t r ih => rw [shL, ih]; rfl
theorem postL_flat (l : List Tree) : postL l = l.flatMap postT := by
 induction l with
 | nil => rfl
 | cons t r ih => rw [postL, ih]; rfl
theorem post_sh (k : Int) : ∀ t, postT (shT k t) = (postT t).map (shN k) := Tree.ind fun d ks ih => by
 rw [shT, postT, postT, List.map_append, shL_map, postL_flat, postL_flat]
 congr 1
 induction ks with
 | nil => rfl
 | cons x xs ihx =>
  rw [List.map_cons, List.flatMap_cons, List.flatMap_cons, List.map_append, ih x (by simp), ihx fun t ht => ih t (by simp [ht])]
theorem shN_kind (k : Int) (d : Nd) : (shN k d).kind = d.kind := by unfold shN; split <;> rfl
theorem shN_first {k : Int} {d : Nd} (h : d.kind = 1) : firstM (shN k d) = firstM d - k := by
 unfold shN
 rw [if_pos h]
 unfold firstM
 simp only
 split
 ·omega
 ·split <;> omega
theorem reach_shift (k : Int) : ∀ (l : List Nd) (r : Int), reachL (r - k) (l.map (shN k)) = reachL r l - k := by
 intro l
 induction l with
 | nil => intro r; rfl
 | cons d q ih =>
  intro r
  show reachL (if (shN k d).kind = 1 then min (r - k) (firstM (shN k d)) else r - k) (q.map (shN k)) = reachL (if d.kind = 1 then min r (firstM d) else r) q - k
  rw [shN_kind]
  by_cases hk : d.kind = 1
  ·rw [if_pos hk, if_pos hk, shN_first hk, show min (r - k) (firstM d - k) = min r (firstM d) - k by omega, ih]
  ·rw [if_neg hk, if_neg hk, ih]
def nselM : List Nd → Nat
 | [] => 0
 | d :: r => (if d.kind = 1 then 1 else 0) + nselM r
theorem reach_none : ∀ (l : List Nd) (r : Int), nselM l = 0 → reachL r l = r := by
 intro l
 induction l with
 | nil => intro r _; rfl
 | cons d q ih =>
  intro r h
  rw [nselM] at h
  show reachL (if d.kind = 1 then min r (firstM d) else r) q = r
  by_cases hk : d.kind = 1
  ·rw [if_pos hk] at h; omega
  ·rw [if_neg hk] at h ⊢
   exact ih r (by omega)
theorem nselM_map (k : Int) (l : List Nd) : nselM (l.map (shN k)) = nselM l := by
 induction l with
 | nil => rfl
 | cons d q ih => rw [List.map_cons, nselM, nselM, ih, shN_kind]
/-- the reach with all offsets increased -/
theorem reach_off {k : Int} (hk0 : 0 ≤ k) : ∀ (l : List Nd), (∀ d ∈ l, rangedB d = true) → 0 < nselM l → reachL 0 (l.map (shN k)) = reachL 0 l - k := by
 intro l
 induction l with
 | nil => intro _ h; cases h
 | cons d q ih =>
  intro h hs
  show reachL (if (shN k d).kind = 1 then min 0 (firstM (shN k d)) else 0) (q.map (shN k)) = reachL (if d.kind = 1 then min 0 (firstM d) else 0) q - k
  rw [shN_kind]
  by_cases hk : d.kind = 1
  ·have h1 := firstM_le (h d (by simp)) hk
   rw [if_pos hk, if_pos hk, shN_first hk, show min 0 (firstM d - k) = min 0 (firstM d) - k by omega, reach_shift]
  ·rw [nselM, if_neg hk] at hs
   rw [if_neg hk, if_neg hk]
   exact ih (fun e he => h e (by simp [he])) (by omega)
/-- the reference's comparison of plans -/
def leafT (d : Nd) : Tree := .node d []
def sameP (p q : List Nd) : Bool := p.length == q.length && (p.zip q).all fun x => eqT (leafT x.1) (leafT x.2)
theorem eqT_leaf (d e : Nd) : eqT (leafT d) (leafT e) = true ↔ d = e := by
 rw [eqT_iff]
 unfold leafT
 constructor
 ·intro h; injection h
 ·rintro rfl; rfl
theorem same_iff : ∀ p q : List Nd, sameP p q = true ↔ p = q := by
 intro p
 induction p with
 | nil => intro q; cases q <;> simp [sameP]
 | cons d r ih =>
  intro q
  cases q with
  | nil => simp [sameP]
  | cons e s =>
   have h := ih s
   unfold sameP at h ⊢
   rw [List.zip_cons_cons, List.all_cons, Bool.and_eq_true, Bool.and_eq_true, eqT_leaf, List.length_cons, List.length_cons]
   rw [Bool.and_eq_true] at h
   constructor
   ·rintro ⟨h1, h2, h3⟩
    have h2 : d = e := h2
    rw [h2, h.1 ⟨by simpa using h1, h3⟩]
   ·intro h1
    injection h1 with h1 h2
    obtain ⟨h3, h4⟩ := h.2 h2
    exact ⟨by simpa using h3, h1, h4⟩
theorem same_self (p : List Nd) : sameP p p = true := (same_iff p p).2 rfl
/-- the law's example -/
def liveQ : List UInt8 := [97, 46, 109, 101, 97, 110, 40, 51, 41, 64, 49, 32, 45, 32, 50]
def liveU : Tree := .node ⟨3, 1, 0, 0, 0, 0, 0, ⟨#[]⟩, [], []⟩ [.node ⟨1, 4, 3, 1, 0, 0, 0, ⟨#[97]⟩, [], []⟩ [], .node ⟨0, 0, 0, 0, 0, 2, 1, ⟨#[]⟩, [], []⟩ []]
theorem live_q : parseT liveQ = (liveU, 0, 0) := by kernel_rfl
theorem live_v : validE liveU = 0 := by kernel_rfl
theorem live_c : compileM liveU = (postT liveU, 0) := if_pos live_v
theorem live_r : reachM (postT liveU) = -3 := by
 unfold reachM
 rw [tree_post live_v]
 rfl
theorem live_b : treeM [⟨3, 0, 0, 0, 0, 0, 0, ⟨#[]⟩, [], []⟩] = (zeroT, 1) := rfl
end
section
open Go.RowKit FracM
set_option maxRecDepth 100000 in
theorem eq_frac (x0 y0 x1 y1 : Int) (w : World) : (Op.equalIn 10000 24 (.agg #[.int .i64 x0, .int .i64 x1]) (.agg #[.int .i64 y0, .int .i64 y1])).run Tryd.prog w = .ok ((x0 == y0) && (x1 == y1)) w := by
 have hS : Tryd.prog.underlying 24 = some (.struct (Tryd.prog.fieldsOf 24)) := by kernel_rfl
 rw [show (10000 : Nat) = 9999 + 1 from rfl, run_equalIn_agg w 9999 24 _ _ hS (by kernel_rfl)]
 simp only [Program.fieldsOf, Tryd.underlying24]
 go_simp
 cases h0 : (x0 == y0) <;> cases h1 : (x1 == y1) <;> simp_all
/-- two nodes in boxes -/
structure E2b (w W : World) (P Q : Nat → Nat → Prop) (d e : Nd) (ks es : List Tree) (s r : Sl) : Prop where
 below : Below w.heap.size w W
 b1 : Blk W w.heap.size exT (ndC d s.1 s.2.1 s.2.2)
 b2 : Blk W (w.heap.size + 1) exT (ndC e r.1 r.2.1 r.2.2)
 t1 : TreeAt W P (.node d ks) s
 t2 : TreeAt W Q (.node e es) r
theorem E2b.next {w W W' : World} {P Q : Nat → Nat → Prop} {d e : Nd} {ks es : List Tree} {s r : Sl} (h : E2b w W P Q d e ks es s r) (hb : Below W.heap.size W W') : E2b w W' P Q d e ks es s r :=
 ⟨bthen h.below hb (Nat.le_refl _), h.b1.below hb, h.b2.below hb, h.t1.belo hb, h.t2.belo hb⟩
end
section
open Go.RowKit FracM
end
section
open Go.RowKit FracM
set_option maxHeartbeats 1000000 in
theorem sameTexts_any (A : Option Addr) (n c : Nat) (A' : Option Addr) (n' c' : Nat) (l l' : List ByteArray) (w : World) (h : StrsP w (.slice A n c) l) (h' : StrsP w (.slice A' n' c') l') :
  Calls Tryd.prog 70 #[.slice A n c, .slice A' n' c'] w (RetB (.bool (sameB l l')) w) := by
 obtain ⟨hn, hm⟩ := h.len
 obtain ⟨hn', hm'⟩ := h'.len
 have HS := Box.mk (And.intro h h')
 clear h h'
 by_cases hl : n = n'
 ·subst hl
  have HN := Box.mk (And.intro hn hn')
  clear hn hn'
  have hne : ((n : Int) != (n : Int)) = false := by simp
  go_enter Tryd.func70, Tryd.ntmps70
  go_wp2_with fail
  go_loopw [5] (fun v wr => ∃ k : Nat, k ≤ n ∧ v = .int .i64 (k : Nat) ∧ Below w.heap.size w wr ∧ Box (sameB (l.drop k) (l'.drop k) = sameB l l')) (fun v _ => n - (intOf v).toNat)
  case atStart => exact ⟨0, by omega, rfl, Below.refl _ _, ⟨rfl⟩⟩
  case round =>
   obtain ⟨k, hk, rfl, hb, HA⟩ := hrel
   have HB := Lib.hid hb
   by_cases hlt : k < n
   ·obtain ⟨x, b1, off1, hx, rfl, hb1, p1⟩ := (HS.out.1.below hb).at_ k (by rw [← HN.out.1]; exact hlt)
    obtain ⟨y, b2, off2, hy, rfl, hb2, p2⟩ := (HS.out.2.below hb).at_ k (by rw [← HN.out.2]; exact hlt)
    have HD := Box.mk (And.intro (drop_at hx) (drop_at hy))
    have hlt2 : (k : Int) < (n : Int) := by omega
    clear hb hx hy
    obtain ⟨q, E⟩ : ∃ z, Box ((x.toList == y.toList) = z) := ⟨_, ⟨rfl⟩⟩
    cases q
    ·have hq := E.out
     have hq2 : (x.toList != y.toList) = true := by rw [bne, hq]; rfl
     go_wp2_with fail
     first | go_region | skip
     all_goals
      go_wp2_with fail
      go_ret
      exact ⟨ret_bool (by rw [← HA.out, HD.out.1, HD.out.2, sameB, E.out]; rfl), by first | exact HB.out | exact bdrew HB.out 1⟩
    ·have hq := E.out
     have hq2 : (x.toList != y.toList) = false := by rw [bne, hq]; rfl
     go_wp2_with fail
     first | go_region | skip
     all_goals
      go_wp2_with fail
      go_roundw
      case rel => exact ⟨k + 1, by omega, by go_num, by first | exact HB.out | exact bdrew HB.out 1, ⟨by rw [← HA.out, HD.out.1, HD.out.2, sameB, E.out]; rfl⟩⟩
      case measure => simp [intOf]; omega
   ·have hlt2 : ¬ (k : Int) < (n : Int) := by omega
    clear hb
    go_wp2_with fail
    go_ret
    exact ⟨ret_bool (by rw [← HA.out, List.drop_eq_nil_of_le (by rw [← HN.out.1]; omega), List.drop_eq_nil_of_le (by rw [← HN.out.2]; omega)]; rfl), HB.out⟩
 ·have hne : ((n : Int) != (n' : Int)) = true := by simp; omega
  have E : Box (sameB l l' = false) := ⟨by rw [same_eq]; apply decide_eq_false; intro h; rw [h] at hn; omega⟩
  go_enter Tryd.func70, Tryd.ntmps70
  go_wp2_with fail
  go_ret
  exact ⟨ret_bool E.out.symm, Below.refl _ _⟩
set_option maxHeartbeats 2000000 in
set_option maxRecDepth 100000 in
theorem rmats_any (A1 A2 : Option Addr) (c1 c2 : Nat) (P Q : Nat → Nat → Prop) (a b : List Mat) (w : World) (ha : SeqP w P 3 (.slice A1 a.length c1) a.length (a.flatMap matCells)) (hb : SeqP w Q 3 (.slice A2 b.length c2) b.length (b.flatMap matCells)) :
  Calls Tryd.prog 69 #[.slice A1 a.length c1, .slice A2 b.length c2] w (RetB (.bool (matsB a b)) w) := by
 have l1 := ha.form
 have l2 : a.length ≤ 9223372036854775807 := by obtain ⟨_, _, e, h⟩ := l1; cases e; exact h
 have l3 : b.length ≤ 9223372036854775807 := by obtain ⟨_, _, e, h⟩ := hb.form; cases e; exact h
 clear l1
 have HA := Box.mk ha
 have HB := Box.mk hb
 clear ha hb
 obtain ⟨q, hq⟩ : ∃ q, matsB a b = q := ⟨_, rfl⟩
 have HQ := Box.mk hq
 rw [hq]
 by_cases hn : a.length = b.length
 ·have HN := Box.mk hn
  obtain ⟨m, hm⟩ : ∃ m, a.length = m := ⟨_, rfl⟩
  have hm2 : b.length = m := by omega
  have HM := Box.mk (And.intro hm hm2)
  rw [hm, hm2]
  rw [hm] at HA l2
  rw [hm2] at HB
  clear hn hm hm2 hq l3
  go_enter Tryd.func69, Tryd.ntmps69
  go_wp2_with fail
  go_loopw [5] (fun v wr => ∃ k n : Nat, k ≤ m ∧ v = .int .i64 (k : Nat) ∧ wr = w.drewN n ∧ Box (matsB (a.drop k) (b.drop k) = q)) (fun v _ => m - (intOf v).toNat)
  case atStart => exact ⟨0, 0, by omega, rfl, rfl, HQ⟩
  case round =>
   obtain ⟨k, n, hk, rfl, rfl, HD⟩ := hrel
   by_cases hlt : k < m
   ·obtain ⟨x, hx⟩ : ∃ x, a[k]? = some x := ⟨a[k]'(by have := HM.out; omega), List.getElem?_eq_getElem _⟩
    obtain ⟨y, hy⟩ : ∃ y, b[k]? = some y := ⟨b[k]'(by have := HM.out; omega), List.getElem?_eq_getElem _⟩
    obtain ⟨g1, o1, rfl, x0, x1, x2⟩ := SeqP.mat HA.out k x hx
    obtain ⟨g2, o2, rfl, y0, y1, y2⟩ := SeqP.mat HB.out k y hy
    have HDD : Box (a.drop k = x :: a.drop (k + 1) ∧ b.drop k = y :: b.drop (k + 1)) := ⟨by rw [List.drop_eq_getElem_cons (by have := HM.out; omega), (List.getElem?_eq_some_iff.1 hx).2], by rw [List.drop_eq_getElem_cons (by have := HM.out; omega), (List.getElem?_eq_some_iff.1 hy).2]⟩
    obtain ⟨z, hz⟩ : ∃ z, matB x y = z := ⟨_, rfl⟩
    have HZ := Box.mk hz
    obtain ⟨xa, xb, xc⟩ := x
    obtain ⟨ya, yb, yc⟩ := y
    simp only at x0 x1 x2 y0 y1 y2
    have hlt2 : (k : Int) < (m : Int) := by omega
    have hlt0 : (0 : Int) ≤ (k : Int) := by omega
    have hqq : ∀ W : World, (Op.equalIn 10000 71 (.agg #[.string xa, .int .i64 xb, .string xc]) (.agg #[.string ya, .int .i64 yb, .string yc])).run Tryd.prog W = .ok z W := fun W => by rw [eq_mat, HZ.out]
    clear hx hy hz
    go_upto_region 6 with (fail)
    go_quiet (fail)
    cases z
    ·go_wp2_with fail
     go_ret
     exact ⟨ret_bool (by rw [← HD.out, HDD.out.1, HDD.out.2, matsB, HZ.out]; rfl), bdrew (below_drewN w n) _⟩
    ·go_wp2_with fail
     go_roundw
     case rel => exact ⟨k + 1, n + nq, by omega, by go_num, rfl, ⟨by rw [← HD.out, HDD.out.1, HDD.out.2, matsB, HZ.out]; simp⟩⟩
     case measure => simp [intOf]; omega
   ·have hlt2 : ¬ (k : Int) < (m : Int) := by omega
    go_wp2_with fail
    go_ret
    exact ⟨ret_bool (by rw [← HD.out, List.drop_eq_nil_of_le (by have := HM.out; omega), List.drop_eq_nil_of_le (by have := HM.out; omega)]; rfl), below_drewN w n⟩
 ·have hn2 : ((a.length : Int) != (b.length : Int)) = true := by simp; omega
  have hq2 := matsB_len hn
  have HE : Box (q = false) := ⟨by rw [← hq, hq2]⟩
  clear hn hq hq2
  go_enter Tryd.func69, Tryd.ntmps69
  go_wp2_with fail
  go_ret
  exact ⟨ret_bool HE.out.symm, Below.refl _ _⟩
end
end Go.Proofs.YtipafbppaaflcaaDoor
