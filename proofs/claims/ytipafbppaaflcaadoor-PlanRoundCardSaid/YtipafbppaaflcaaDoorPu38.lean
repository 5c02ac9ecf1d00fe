/- Contracts, packed: Ud Jp Uf. -/
import Derived.Test.YtipafbppaaflcaaDoorPu4
import Derived.Test.YtipafbppaaflcaaDoorPu12
import Derived.Test.YtipafbppaaflcaaDoorPu24
import Derived.Test.YtipafbppaaflcaaDoorPu34
import Derived.Test.YtipafbppaaflcaaDoorPu36
import Derived.Test.YtipafbppaaflcaaDoorPu37
set_option linter.unusedVariables false
set_option linter.unusedSimpArgs false
namespace Go.Proofs.YtipafbppaaflcaaDoor
section
open Go.RowKit FracM
theorem postL_app (a b : List Tree) : postL (a ++ b) = postL a ++ postL b := by
 induction a with
 | nil => rfl
 | cons t r ih => rw [List.cons_append, postL, postL, ih, List.append_assoc]
theorem stackM_back : ∀ (l : List Nd) (st st' : List Tree), stackM l st = some st' → postL st' = postL st ++ l := by
 intro l
 induction l with
 | nil => intro st st' h; rw [stackM] at h; cases h; rw [List.append_nil]
 | cons d r ih =>
  intro st st' h
  rw [stackM] at h
  split at h
  ·rw [ih _ _ h, postL_app, postL, postT, postL, List.append_nil, ← List.append_assoc (postL (st.take _)), ← postL_app, List.take_append_drop, List.append_assoc]
   rfl
  ·cases h
/-- a plan is what its tree is compiled to -/
theorem tree_back {l : List Nd} {t : Tree} (h : treeM l = (t, 0)) : postT t = l ∧ validE t = 0 := by
 unfold treeM at h
 split at h
 ·simp at h
 ·split at h
  ·next u hu =>
   split at h
   ·next hv =>
    simp only [Prod.mk.injEq, and_true] at h
    subst h
    have := stackM_back l [] [u] hu
    simp only [postL, List.append_nil, List.nil_append] at this
    exact ⟨this, hv⟩
   ·next hv => simp only [Prod.mk.injEq] at h; exact absurd h.2 hv
  ·simp at h
theorem validE_chk {t : Tree} (h : validE t = 0) : chk t = 0 := by
 unfold validE at h
 split at h
 ·cases h
 ·exact h
theorem post_chk1 : ∀ t, chk t = 0 → ∀ d ∈ postT t, ∃ n, chk1 d n = 0 := Tree.ind fun d ks ih h e he => by
 obtain ⟨h1, h2⟩ := chk_ok h
 rw [postT] at he
 rcases List.mem_append.1 he with he | he
 ·have : ∀ (l : List Tree), (∀ t ∈ l, t ∈ ks) → e ∈ postL l → ∃ n, chk1 e n = 0 := by
   intro l
   induction l with
   | nil => intro _ h; cases h
   | cons x xs ihx =>
    intro hl h
    rw [postL] at h
    rcases List.mem_append.1 h with h | h
    ·exact ih x (hl x (by simp)) (h2 x (hl x (by simp))) e h
    ·exact ihx (fun t ht => hl t (by simp [ht])) h
  exact this ks (fun t ht => ht) he
 ·simp only [List.mem_singleton] at he
  subst he
  exact ⟨_, h1⟩
theorem chk1_rng {d : Nd} {n : Nat} (h : chk1 d n = 0) : rangedB d = true := by
 unfold chk1 at h
 cases hr : rangedB d with
 | true => rfl
 | false =>
  rw [hr] at h
  split at h
  ·cases h
  split at h
  ·cases h
  split at h
  ·cases h
  simp at h
/-- the instructions of a valid plan -/
theorem plan_rng {l : List Nd} (h : (treeM l).2 = 0) : ∀ d ∈ l, rangedB d = true := by
 intro d hd
 obtain ⟨h1, h2⟩ := tree_back (t := (treeM l).1) (by rw [← h])
 rw [← h1] at hd
 obtain ⟨n, hn⟩ := post_chk1 _ (validE_chk h2) d hd
 exact chk1_rng hn
theorem firstM_le {d : Nd} (h : rangedB d = true) (hk : d.kind = 1) : firstM d ≤ 0 := by
 unfold rangedB at h
 rw [if_pos hk] at h
 simp only [Bool.and_eq_true, decide_eq_true_eq] at h
 unfold firstM
 by_cases h0 : d.fn = 0
 ·rw [if_pos h0]; omega
 ·rw [if_neg h0] at h
  simp only [Bool.and_eq_true, decide_eq_true_eq] at h
  rw [if_neg h0]
  split <;> omega
theorem reach_app (r : Int) (a b : List Nd) : reachL r (a ++ b) = reachL (reachL r a) b := by unfold reachL; rw [List.foldl_append]
/-- the reference's comparison of plans -/
def leafT (d : Nd) : Tree := .node d []
def sameP (p q : List Nd) : Bool := p.length == q.length && (p.zip q).all fun x => eqT (leafT x.1) (leafT x.2)
theorem eqT_leaf (d e : Nd) : eqT (leafT d) (leafT e) = true ↔ d = e := by
 rw [eqT_iff]
 unfold leafT
 constructor
 ·intro h; injection h
 ·rintro rfl; rfl
theorem same_iff : ∀ p q : List Nd, sameP p q = true ↔ p = q := by
 intro p
 induction p with
 | nil => intro q; cases q <;> simp [sameP]
 | cons d r ih =>
  intro q
  cases q with
  | nil => simp [sameP]
  | cons e s =>
   have h := ih s
   unfold sameP at h ⊢
   rw [List.zip_cons_cons, List.all_cons, Bool.and_eq_true, Bool.and_eq_true, eqT_leaf, List.length_cons, List.length_cons]
   rw [Bool.and_eq_true] at h
   constructor
   ·rintro ⟨h1, h2, h3⟩
    have h2 : d = e := h2
    rw [h2, h.1 ⟨by simpa using h1, h3⟩]
   ·intro h1
    injection h1 with h1 h2
    obtain ⟨h3, h4⟩ := h.2 h2
    exact ⟨by simpa using h3, h1, h4⟩
theorem same_self (p : List Nd) : sameP p p = true := (same_iff p p).2 rfl
/-- the law's example -/
def liveQ : List UInt8 := [97, 46, 109, 101, 97, 110, 40, 51, 41, 64, 49, 32, 45, 32, 50]
def liveU : Tree := .node ⟨3, 1, 0, 0, 0, 0, 0, ⟨#[]⟩, [], []⟩ [.node ⟨1, 4, 3, 1, 0, 0, 0, ⟨#[97]⟩, [], []⟩ [], .node ⟨0, 0, 0, 0, 0, 2, 1, ⟨#[]⟩, [], []⟩ []]
theorem live_q : parseT liveQ = (liveU, 0, 0) := by kernel_rfl
theorem live_v : validE liveU = 0 := by kernel_rfl
theorem live_c : compileM liveU = (postT liveU, 0) := if_pos live_v
theorem live_r : reachM (postT liveU) = -3 := by
 unfold reachM
 rw [tree_post live_v]
 rfl
theorem live_b : treeM [⟨3, 0, 0, 0, 0, 0, 0, ⟨#[]⟩, [], []⟩] = (zeroT, 1) := rfl
end
section
open Go.RowKit FracM
set_option maxHeartbeats 2000000 in
set_option maxRecDepth 100000 in
theorem pnodes_any : ∀ t, ∀ (P : Nat → Nat → Prop) (w : World) (s : Sl), TreeAt w P t s → nds t ≤ 1000000 → Calls Tryd.prog 30 #[.agg (ndC t.d s.1 s.2.1 s.2.2)] w (RetB (.int .i64 (nds t)) w) := by
 refine Tree.ind ?_
 intro d ks ih P w ⟨mv, bv, kv⟩ hT hn
 have IH := Box.mk ih
 have HN := Lib.hid (N1.start hT)
 obtain ⟨A1, n1, hmv, l1⟩ := hT.nod.ms.form
 obtain ⟨A2, n2, hbv, l2⟩ := hT.nod.bys.form
 obtain ⟨A3, n3, hkv, l3⟩ := hT.nod.kform
 subst hmv hbv hkv
 rw [nds] at hn ⊢
 obtain ⟨N, hN⟩ : ∃ N, N = ndsL ks := ⟨_, rfl⟩
 rw [← hN] at hn ⊢
 have HNN := Box.mk hN
 clear hT ih hN
 simp only [Tree.d]
 go_enter Tryd.func30, Tryd.ntmps30
 go_upto_region 1 with (fail)
 generalize w.alloc (.cells (ndC d _ _ _) 29) = W at HN ⊢
 have c10 := (blk11z HN.out.blk).2.2.2.2.2.2.2.2.2.2
 go_wp2_with fail
 go_loopw [3, 9] (fun n v wr => ∃ k m : Nat, k ≤ ks.length ∧ v = .int .i64 (k : Nat) ∧ n = .int .i64 (m : Nat) ∧ m + ndsL (ks.drop k) = N + 1 ∧ N1 w wr P d ks (.slice A1 d.ms.length n1) (.slice A2 d.bys.length n2) (.slice A3 ks.length n3)) (fun _ v _ => ks.length - (intOf v).toNat)
 case atStart => exact ⟨0, 1, by omega, rfl, rfl, by rw [List.drop_zero, ← HNN.out]; omega, HN.out⟩
 case round =>
  clear HN c10
  obtain ⟨k, m, hk, rfl, rfl, hm, hN⟩ := hrel
  have HN := Lib.hid hN; clear hN
  by_cases hlt : k < ks.length
  ·obtain ⟨x, hx⟩ : ∃ x, ks[k]? = some x := ⟨ks[k], List.getElem?_eq_getElem _⟩
   obtain ⟨e, es⟩ := x
   obtain ⟨b, off, mv', bv', kv', rfl, hb, hpb, ⟨k0, k1, k2, k3, k4, k5, k6, k7, k8, k9, k10⟩, hT'⟩ := HN.out.nod.kid k e es hx
   obtain ⟨B1, m1, rfl, -⟩ := hT'.nod.ms.form
   obtain ⟨B2, m2, rfl, -⟩ := hT'.nod.bys.form
   obtain ⟨B3, m3, rfl, -⟩ := hT'.nod.kform
   have HT' := Box.mk hT'
   have HX := Box.mk hx
   have hlt2 : (k : Int) < (ks.length : Int) := by omega
   have hstep := ndsL_drop ks k _ hx
   have hle := nds_mem (List.mem_of_getElem? hx)
   rw [← HNN.out] at hle
   have HM := Box.mk (And.intro hm hstep)
   have hq : nds (.node e es) ≤ 1000000 := by omega
   have hm2 : m + nds (.node e es) ≤ 1000001 := by omega
   clear hT' hx hm hstep hle
   go_upto_region 5 with (fail)
   have HN3 := Lib.hid (HN.out.next (bel1 wr (.cells (ndC e (.slice B1 e.ms.length m1) (.slice B2 e.bys.length m2) (.slice B3 es.length m3)) 29)))
   have HT3 := Box.mk (HT'.out.belo (bel1 wr (.cells (ndC e (.slice B1 e.ms.length m1) (.slice B2 e.bys.length m2) (.slice B3 es.length m3)) 29)))
   have HK3 : Hid (Blk (wr.alloc (.cells (ndC e (.slice B1 e.ms.length m1) (.slice B2 e.bys.length m2) (.slice B3 es.length m3)) 29)) wr.heap.size 29 (ndC e (.slice B1 e.ms.length m1) (.slice B2 e.bys.length m2) (.slice B3 es.length m3))) := Blk.new _ _ _
   clear HN HT' k0 k1 k2 k3 k4 k5 k6 k7 k8 k9 k10
   generalize wr.heap.size = G at *
   generalize wr.alloc (.cells (ndC e (.slice B1 e.ms.length m1) (.slice B2 e.bys.length m2) (.slice B3 es.length m3)) 29) = W3 at *
   obtain ⟨k0, k1, k2, k3, k4, k5, k6, k7, k8, k9, k10⟩ := blk11z HK3.out
   go_wp2_with fail
   refine (IH.out (.node e es) (List.mem_of_getElem? HX.out) P _ (.slice B1 e.ms.length m1, .slice B2 e.bys.length m2, .slice B3 es.length m3) HT3.out hq).mono ?_
   rintro e1 w1 ⟨rfl, hb1⟩
   have HN2 := Lib.hid (HN3.out.next hb1)
   generalize nds (.node e es) = q at hq hm2 HM ⊢
   clear HN3 HK3 hb1 k0 k1 k2 k3 k4 k5 k6 k7 k8 k9 k10
   go_wp2_with fail
   go_roundw
   case rel => exact ⟨k + 1, m + q, by omega, by go_num, by go_num, by have := HM.out; omega, HN2.out⟩
   case measure => simp [intOf]; omega
  ·have hlt2 : ¬ (k : Int) < (ks.length : Int) := by omega
   rw [List.drop_eq_nil_of_le (by omega), ndsL] at hm
   go_wp2_with fail
   go_ret
   exact ⟨ret_int (by omega), HN.out.below⟩
end
section
open Go.RowKit FracM
abbrev Num64 (n : Int) : Prop := -9223372036854775808 ≤ n ∧ n ≤ 9223372036854775807
abbrev Siz64 (s : ByteArray) : Prop := s.size < 18446744073709551616
/-- the bytes left are bytes, and not too many -/
def RsOk (s : Rst) : Prop := ∀ l, s = some l → (∀ x ∈ l, x < 256) ∧ l.length < 18446744073709551616
theorem RsOk.none_ : RsOk none := fun l h => by cases h
/-- a reader that undoes a writer -/
structure CodOk {α : Type} (e : α → List Nat) (r : Rst → α × Rst) (g : α → Prop) : Prop where
 fwd : ∀ x, g x → ∀ q, r (some (e x ++ q)) = (x, some q)
 back : ∀ l x q, RsOk (some l) → r (some l) = (x, some q) → l = e x ++ q
 nn : (r none).2 = none
 inv : ∀ s, RsOk s → g (r s).1 ∧ RsOk (r s).2
theorem CodOk.some_ {α : Type} {e : α → List Nat} {r : Rst → α × Rst} {g : α → Prop} (c : CodOk e r g) {s : Rst} {q : List Nat} (h : (r s).2 = some q) : ∃ l, s = some l := by
 cases s with
 | none => rw [c.nn] at h; cases h
 | some l => exact ⟨l, rfl⟩
theorem rdU_inv {s : Rst} (h : RsOk s) : (rdU s).1 < 18446744073709551616 ∧ RsOk (rdU s).2 := by
 cases s with
 | none => exact ⟨by decide, RsOk.none_⟩
 | some l =>
  obtain ⟨hx, hl⟩ := h l rfl
  cases hu : (rdU (some l)).2 with
  | none =>
   refine ⟨?_, RsOk.none_⟩
   unfold rdU at hu ⊢
   simp only at hu ⊢
   cases hv : urd 0 0 l with
   | none => decide
   | some p => rw [hv] at hu; simp at hu
  | some q =>
   obtain ⟨e1, e2⟩ := rdU_back (n := (rdU (some l)).1) hx (by rw [← hu])
   refine ⟨e2, fun l' h' => ?_⟩
   cases h'
   refine ⟨fun x h => hx x (by rw [e1]; simp [h]), ?_⟩
   have := congrArg List.length e1
   rw [List.length_append] at this
   omega
theorem int_ok : CodOk encI rdI Num64 where
 fwd := fun x h q => rdI_enc h.1 h.2 q
 back := fun l x q h hr => (rdI_back (h l rfl).1 hr).1
 nn := rfl
 inv := fun s h => ⟨zag_bd (rdU_inv h).1, (rdU_inv h).2⟩
theorem txt_ok : CodOk encS rdT Siz64 where
 fwd := fun x h q => rdT_enc h q
 back := fun l x q h hr => rdT_back (h l rfl).1 hr
 nn := rfl
 inv := fun s h => by
  obtain ⟨h1, h2⟩ := rdU_inv h
  unfold rdT
  cases hu : (rdU s).2 with
  | none => exact ⟨show (⟨#[]⟩ : ByteArray).size < 18446744073709551616 by decide, RsOk.none_⟩
  | some q =>
   obtain ⟨h3, h4⟩ := h2 q hu
   simp only
   split
   ·refine ⟨?_, fun l hl => ?_⟩
    ·show (strN _).size < _
     rw [strN_size, List.length_take]; omega
    ·cases hl
     exact ⟨fun x hx => h3 x (List.mem_of_mem_drop hx), by rw [List.length_drop]; omega⟩
   ·exact ⟨show (⟨#[]⟩ : ByteArray).size < 18446744073709551616 by decide, RsOk.none_⟩
def pairE {α β : Type} (e : α → List Nat) (f : β → List Nat) (p : α × β) : List Nat := e p.1 ++ f p.2
def pairR {α β : Type} (r : Rst → α × Rst) (t : Rst → β × Rst) (s : Rst) : (α × β) × Rst := (((r s).1, (t (r s).2).1), (t (r s).2).2)
theorem CodOk.pair {α β : Type} {e : α → List Nat} {r : Rst → α × Rst} {g : α → Prop} {f : β → List Nat} {t : Rst → β × Rst} {k : β → Prop} (c : CodOk e r g) (d : CodOk f t k) : CodOk (pairE e f) (pairR r t) (fun p => g p.1 ∧ k p.2) where
 fwd := fun x h q => by
  unfold pairE pairR
  rw [List.append_assoc, c.fwd _ h.1]
  simp only
  rw [d.fwd _ h.2]
 back := fun l x q h hr => by
  unfold pairR at hr
  simp only [Prod.mk.injEq] at hr
  obtain ⟨rfl, hr⟩ := hr
  obtain ⟨m, hm⟩ := d.some_ hr
  have h1 := c.back l (r (some l)).1 m h (by rw [← hm])
  have h2 := d.back m (t (some m)).1 q (by rw [← hm]; exact (c.inv _ h).2) (by rw [← hr, hm])
  unfold pairE
  simp only
  rw [hm, List.append_assoc, ← h2]
  exact h1
 nn := by unfold pairR; rw [c.nn]; exact d.nn
 inv := fun s h => ⟨⟨(c.inv s h).1, (d.inv _ (c.inv s h).2).1⟩, (d.inv _ (c.inv s h).2).2⟩
def repR {α : Type} (r : Rst → α × Rst) : Nat → Rst → List α × Rst
 | 0, s => ([], s)
 | n + 1, s => ((r s).1 :: (repR r n (r s).2).1, (repR r n (r s).2).2)
theorem CodOk.rfwd {α : Type} {e : α → List Nat} {r : Rst → α × Rst} {g : α → Prop} (c : CodOk e r g) : ∀ (l : List α), (∀ x ∈ l, g x) → ∀ q, repR r l.length (some (l.flatMap e ++ q)) = (l, some q) := by
 intro l
 induction l with
 | nil => intro _ q; rfl
 | cons x xs ih =>
  intro h q
  rw [List.length_cons, repR, List.flatMap_cons, List.append_assoc, c.fwd _ (h x (by simp))]
  simp only
  rw [ih fun y hy => h y (by simp [hy])]
abbrev Hdr := Int × Int × Int × Int × Int × Int × Int × ByteArray
def hdE : Hdr → List Nat := pairE encI (pairE encI (pairE encI (pairE encI (pairE encI (pairE encI (pairE encI encS))))))
def hdR : Rst → Hdr × Rst := pairR rdI (pairR rdI (pairR rdI (pairR rdI (pairR rdI (pairR rdI (pairR rdI rdT))))))
def hdG (h : Hdr) : Prop := Num64 h.1 ∧ Num64 h.2.1 ∧ Num64 h.2.2.1 ∧ Num64 h.2.2.2.1 ∧ Num64 h.2.2.2.2.1 ∧ Num64 h.2.2.2.2.2.1 ∧ Num64 h.2.2.2.2.2.2.1 ∧ Siz64 h.2.2.2.2.2.2.2
theorem hd_ok : CodOk hdE hdR hdG := int_ok.pair (int_ok.pair (int_ok.pair (int_ok.pair (int_ok.pair (int_ok.pair (int_ok.pair txt_ok))))))
def matE : Mat → List Nat := pairE encS (pairE encI encS)
def matR : Rst → Mat × Rst := pairR rdT (pairR rdI rdT)
def matG (m : Mat) : Prop := Siz64 m.1 ∧ Num64 m.2.1 ∧ Siz64 m.2.2
theorem mat_ok : CodOk matE matR matG := txt_ok.pair (int_ok.pair txt_ok)
def hdOf (d : Nd) : Hdr := (d.kind, d.fn, d.win, d.off, d.k, d.num, d.den, d.name)
def ndOf (h : Hdr) (ms : List Mat) (bs : List ByteArray) : Nd := ⟨h.1, h.2.1, h.2.2.1, h.2.2.2.1, h.2.2.2.2.1, h.2.2.2.2.2.1, h.2.2.2.2.2.2.1, h.2.2.2.2.2.2.2, ms, bs⟩
/-- an instruction, written -/
def encNd (d : Nd) : List Nat := hdE (hdOf d) ++ (encI d.ms.length ++ (d.ms.flatMap matE ++ (encI d.bys.length ++ d.bys.flatMap encS)))
def encPl (l : List Nd) : List Nat := encI l.length ++ l.flatMap encNd
structure GoodNd (d : Nd) : Prop where
 hd : hdG (hdOf d)
 ms : ∀ m ∈ d.ms, matG m
 bys : ∀ s ∈ d.bys, Siz64 s
/-- an instruction, read by the program -/
def rdNd (s : Rst) : Option (Nd × Rst) :=
 if (rdI (hdR s).2).1 < 0 ∨ 8 < (rdI (hdR s).2).1 then none else
 if (rdI (repR matR (rdI (hdR s).2).1.toNat (rdI (hdR s).2).2).2).1 < 0 ∨ 8 < (rdI (repR matR (rdI (hdR s).2).1.toNat (rdI (hdR s).2).2).2).1 then none else
 some (ndOf (hdR s).1 (repR matR (rdI (hdR s).2).1.toNat (rdI (hdR s).2).2).1 (repR rdT (rdI (repR matR (rdI (hdR s).2).1.toNat (rdI (hdR s).2).2).2).1.toNat (rdI (repR matR (rdI (hdR s).2).1.toNat (rdI (hdR s).2).2).2).2).1,
  (repR rdT (rdI (repR matR (rdI (hdR s).2).1.toNat (rdI (hdR s).2).2).2).1.toNat (rdI (repR matR (rdI (hdR s).2).1.toNat (rdI (hdR s).2).2).2).2).2)
/-- an instruction, read by the reference -/
def rrdNd (s : Rst) : Nd × Rst :=
 (ndOf (hdR s).1 (repR matR (min (rdI (hdR s).2).1.toNat 9) (rdI (hdR s).2).2).1 (repR rdT (min (rdI (repR matR (min (rdI (hdR s).2).1.toNat 9) (rdI (hdR s).2).2).2).1.toNat 9) (rdI (repR matR (min (rdI (hdR s).2).1.toNat 9) (rdI (hdR s).2).2).2).2).1,
  (repR rdT (min (rdI (repR matR (min (rdI (hdR s).2).1.toNat 9) (rdI (hdR s).2).2).2).1.toNat 9) (rdI (repR matR (min (rdI (hdR s).2).1.toNat 9) (rdI (hdR s).2).2).2).2).2)
theorem nat64 {n : Nat} (h : n ≤ 1000) : Num64 (n : Int) := by unfold Num64; omega
theorem rrdNd_fwd {d : Nd} (g : GoodNd d) (h1 : d.ms.length ≤ 8) (h2 : d.bys.length ≤ 8) (q : List Nat) : rrdNd (some (encNd d ++ q)) = (d, some q) := by
 unfold rrdNd encNd
 rw [List.append_assoc, hd_ok.fwd _ g.hd]
 simp only
 rw [List.append_assoc, int_ok.fwd _ (nat64 (by omega))]
 simp only [Int.toNat_natCast]
 rw [Nat.min_eq_left (by omega), List.append_assoc, mat_ok.rfwd _ g.ms]
 simp only
 rw [List.append_assoc, int_ok.fwd _ (nat64 (by omega))]
 simp only [Int.toNat_natCast]
 rw [Nat.min_eq_left (by omega), txt_ok.rfwd _ g.bys]
 rfl
theorem rdNd_fwd {d : Nd} (g : GoodNd d) (h1 : d.ms.length ≤ 8) (h2 : d.bys.length ≤ 8) (q : List Nat) : rdNd (some (encNd d ++ q)) = some (d, some q) := by
 unfold rdNd encNd
 rw [List.append_assoc, hd_ok.fwd _ g.hd]
 simp only
 rw [List.append_assoc, int_ok.fwd _ (nat64 (by omega))]
 simp only [Int.toNat_natCast]
 rw [if_neg (by omega), List.append_assoc, mat_ok.rfwd _ g.ms]
 simp only
 rw [List.append_assoc, int_ok.fwd _ (nat64 (by omega))]
 simp only [Int.toNat_natCast]
 rw [if_neg (by omega), txt_ok.rfwd _ g.bys]
 rfl
end
end Go.Proofs.YtipafbppaaflcaaDoor
