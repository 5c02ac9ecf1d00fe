/- Contracts, packed: Qd Ko Ub. -/
import Derived.Test.YtpgdijbfkahepaaGreatDoorPd11
import Derived.Test.YtpgdijbfkahepaaGreatDoorPd13
import Derived.Test.YtpgdijbfkahepaaGreatDoorPd14
set_option linter.unusedVariables false
set_option linter.unusedSimpArgs false
namespace Go.Proofs.YtpgdijbfkahepaaGreatDoor
section
open Go.RowKit FracM
theorem TreeAt.low {w : World} {P : Nat → Nat → Prop} {t : Tree} {s : Sl} (h : TreeAt w P t s) : TreeAt w (fun b _ => b < w.heap.size) t s := h.mono fun _ _ hb _ => hb
set_option maxHeartbeats 1000000 in
theorem fits_any (t : Tree) (P : Nat → Nat → Prop) (w : World) (s : Sl) (hT : TreeAt w P t s) : Calls Tryz.prog 42 #[.agg (ndC t.d s.1 s.2.1 s.2.2)] w (RetB (.bool (fitB t)) w) := by
 have HT := Box.mk hT.low
 clear hT
 obtain ⟨mv, bv, kv⟩ := s
 obtain ⟨q, hq⟩ : ∃ q, q = cnt t 1 200 := ⟨_, rfl⟩
 have HQ := Box.mk hq
 have HE := Box.mk (fit_eq t)
 go_enter Tryz.func42, Tryz.ntmps42
 go_wp2_with fail
 refine (count_any t _ _ (w.heap.size + 1) _ _ (mv, bv, kv) (HT.out.belo (bel2 _ _ _)) (fun b _ hb => by omega) (Blk.newAt _ _ (by simp)) (by omega) (by omega) (by omega) (by omega)).mono ?_
 rintro e w1 ⟨rfl, h1, h3⟩
 rw [← hq] at h1
 have HB : Box (Below w.heap.size w w1) := ⟨(bel2 _ _ _).trans (h3.below (by omega) (by simp; omega))⟩
 have c1 := h1.c1
 clear h1 h3 hq
 go_wp2_with fail
 go_ret
 exact ⟨ret_bool (by rw [← HE.out, ← HQ.out]), HB.out⟩
theorem len0 {α : Type} (l : List α) : (((l.length : Nat) : Int) == 0) = l.isEmpty := by cases l <;> simp <;> omega
set_option maxHeartbeats 4000000 in
set_option maxRecDepth 100000 in
theorem shaped_any (d : Nd) (ks : List Tree) (P : Nat → Nat → Prop) (w : World) (mv bv kv : Value) (hT : TreeAt w P (.node d ks) (mv, bv, kv)) : Calls Tryz.prog 80 #[.agg (ndC d mv bv kv)] w (RetB (.bool (shapedB d ks.length)) w) := by
 have HN := Lib.hid (N1.start hT)
 obtain ⟨A1, n1, rfl, l1⟩ := hT.nod.ms.form
 obtain ⟨A2, n2, rfl, l2⟩ := hT.nod.bys.form
 obtain ⟨A3, n3, rfl, l3⟩ := hT.nod.kform
 have HO := Box.mk hT.nod.ok
 clear hT
 go_enter Tryz.func80, Tryz.ntmps80
 go_upto_region 1 with (fail)
 generalize w.alloc (.cells (ndC d _ _ _) 35) = W at HN ⊢
 obtain ⟨c0, c1, c2, c3, c4, c5, c6, c7, c8, c9, c10⟩ := HN.out.c
 simp only [Nat.zero_add] at c1 c2 c3 c4 c5 c6 c7 c8 c9 c10
 go_cut [3] (fun x wx => ∃ ns : Bool, x = .bool ns ∧ W = wx ∧ Box (ns = noSelB d))
 case first =>
  go_wp2_with fail
  all_goals
   go_meet
   refine ⟨_, rfl, rfl, ⟨?_⟩⟩
   unfold noSelB
   simp_all [len0]
 case rest =>
  obtain ⟨ns, rfl, rfl, HS⟩ := hcut
  go_upto_region 2 with (fail)
  go_cut [4] (fun x wx => ∃ nn : Bool, x = .bool nn ∧ W = wx ∧ Box (nn = noNumB d))
  case first =>
   go_wp2_with fail
   all_goals
    go_meet
    refine ⟨_, rfl, rfl, ⟨?_⟩⟩
    unfold noNumB
    simp_all
  case rest =>
   obtain ⟨nn, rfl, rfl, HU⟩ := hcut
   go_upto_region 3 with (fail)
   obtain ⟨⟨-, -, -, -, -, ⟨b1, b2⟩, ⟨b3, b4⟩⟩, -, -, -⟩ := HO.out
   go_wp2_with (go_at_call 95; refine (fvalid_any _ _ _ b1 b2 b3 b4).mono ?_; rintro e w' ⟨rfl, hb1⟩; have HB1 := Lib.hid (HN.out.next hb1); clear hb1)
   all_goals
    go_ret
    refine ⟨ret_bool ?_, by first | exact HN.out.below | exact HB1.out.below⟩
    unfold shapedB
    simp only [← HS.out, ← HU.out]
    simp_all [len0]
    try (intros; omega)
set_option maxHeartbeats 4000000 in
set_option maxRecDepth 100000 in
theorem ranged_any (d : Nd) (ks : List Tree) (P : Nat → Nat → Prop) (w : World) (mv bv kv : Value) (hT : TreeAt w P (.node d ks) (mv, bv, kv)) : Calls Tryz.prog 82 #[.agg (ndC d mv bv kv)] w (RetB (.bool (rangedB d)) w) := by
 have HN := Lib.hid (N1.start hT)
 have HO := Box.mk hT.nod.ok
 clear hT
 go_enter Tryz.func82, Tryz.ntmps82
 go_upto_region 1 with (fail)
 generalize w.alloc (.cells (ndC d _ _ _) 35) = W at HN ⊢
 obtain ⟨c0, c1, c2, c3, c4, c5, c6, c7, c8, c9, c10⟩ := HN.out.c
 simp only [Nat.zero_add] at c1 c2 c3 c4 c5 c6 c7 c8 c9 c10
 go_wp2_with fail
 all_goals
  go_ret
  refine ⟨ret_bool ?_, HN.out.below⟩
  unfold rangedB
  simp_all
  try (intros; omega)
end
section
open Go.RowKit FracM
theorem bsL_inj {a b : List UInt8} : bsL a = bsL b ↔ a = b := by
 constructor
 ·intro h
  have := congrArg (fun x : ByteArray => x.data.toList) h
  simpa [bsL] using this
 ·rintro rfl; rfl
theorem bsL_beq (a b : List UInt8) : ((bsL a).toList == (bsL b).toList) = (a == b) := by
 rw [Bool.eq_iff_iff, beq_iff_eq, beq_iff_eq, ByteArray.toList_eq, ByteArray.toList_eq]
 exact ⟨fun h => bsL_inj.1 (ByteArray.ext (Array.toList_inj.mp h)), fun h => by rw [h]⟩
set_option maxHeartbeats 1000000 in
theorem pkind_any (g : Nat) (en k : Int) (ts : List Tok) (w : World) (h : PS w g en ts) :
  Calls Tryz.prog 90 #[.pointer (some ⟨g, 0, none⟩), .int .i64 k] w fun e w' => e = .returned (.bool (kindT ts k)) ∧ w = w' := by
 cases ts with
 | nil =>
  obtain ⟨A, c, hb, hc⟩ := h.nil
  obtain ⟨c0, c1⟩ := hb.c2
  have cf := hb.frozen
  clear hb h
  go_enter Tryz.func90, Tryz.ntmps90
  go_wp2_with fail
  go_ret
  exact ⟨rfl, rfl⟩
 | cons t r =>
  obtain ⟨b, off, c, hb, hlt, hne, h1, h2, t0, t1, t2, t3, hr⟩ := h.cons
  obtain ⟨c0, c1⟩ := hb.c2
  have hz : (0 : Int) < ((r.length + 1 : Nat) : Int) := by omega
  clear hb h hr
  go_enter Tryz.func90, Tryz.ntmps90
  go_wp2_with fail
  go_ret
  exact ⟨rfl, rfl⟩
set_option maxHeartbeats 1000000 in
theorem pis_any (g : Nat) (en k : Int) (x : List UInt8) (u : ByteArray) (hu : u = bsL x) (ts : List Tok) (w : World) (h : PS w g en ts) :
  Calls Tryz.prog 77 #[.pointer (some ⟨g, 0, none⟩), .int .i64 k, .string u] w fun e w' => e = .returned (.bool (isT ts k x)) ∧ w = w' := by
 cases ts with
 | nil =>
  obtain ⟨A, c, hb, hc⟩ := h.nil
  obtain ⟨c0, c1⟩ := hb.c2
  have cf := hb.frozen
  clear hb h
  go_enter Tryz.func77, Tryz.ntmps77
  go_wp2_with fail
  go_ret
  exact ⟨rfl, rfl⟩
 | cons t r =>
  obtain ⟨b, off, c, hb, hlt, hne, h1, h2, t0, t1, t2, t3, hr⟩ := h.cons
  obtain ⟨c0, c1⟩ := hb.c2
  have hz : (0 : Int) < ((r.length + 1 : Nat) : Int) := by omega
  have E2 : Box (isT (t :: r) k x = (t.kind == k && ((bsL t.text).toList == (bsL x).toList))) := ⟨by rw [bsL_beq]; rfl⟩
  clear hb h hr
  by_cases hk : t.kind = k
  ·have hk2 : (t.kind == k) = true := by simpa using hk
   go_enter Tryz.func77, Tryz.ntmps77
   go_wp2_with fail
   go_ret
   exact ⟨by rw [E2.out, hk2]; rfl, rfl⟩
  ·have hk2 : (t.kind == k) = false := by simpa using hk
   go_enter Tryz.func77, Tryz.ntmps77
   go_wp2_with fail
   go_ret
   exact ⟨by rw [E2.out, hk2]; rfl, rfl⟩
set_option maxHeartbeats 1000000 in
theorem ptake_any (g : Nat) (en : Int) (t : Tok) (r : List Tok) (w : World) (h : PS w g en (t :: r)) :
  Calls Tryz.prog 89 #[.pointer (some ⟨g, 0, none⟩)] w fun e w' => e = .returned (.agg #[.int .i64 t.kind, .string (bsL t.text), .int .i64 t.n, .int .i64 (t.off : Int)]) ∧ PS w' g en r ∧ Only g w w' := by
 obtain ⟨b, off, c, hb, hlt, hne, h1, h2, t0, t1, t2, t3, hr⟩ := h.cons
 obtain ⟨c0, c1⟩ := hb.c2
 have cf := hb.frozen
 have hz : (0 : Int) < ((r.length + 1 : Nat) : Int) := by omega
 have hg := h.lt
 have HH := Box.mk h
 have hN : Box (SeqP w (fun b _ => b < g) 4 (.slice (some ⟨b, off, none⟩) 0 0) 0 []) := ⟨⟨rfl, _, _, rfl, by omega, by unfold maxLen; omega, fun h => absurd h (by omega)⟩⟩
 clear h
 go_enter Tryz.func89, Tryz.ntmps89
 go_wp2_with fail
 ·obtain rfl : r = [] := List.eq_nil_of_length_eq_zero (by omega)
  exact bodyPost_ret (v := .agg (tokC t)) (by simp [results, Tryz.results89, go_sem]) rfl ⟨rfl, (((HH.out.put _ hN.out).alloc _).alloc _), ((Only.setCell 0 _).trans (Only.of_below (bel2 _ _ _)))⟩
 ·exact bodyPost_ret (v := .agg (tokC t)) (by simp [results, Tryz.results89, go_sem]) rfl ⟨rfl, (((HH.out.put _ hr).alloc _).alloc _), ((Only.setCell 0 _).trans (Only.of_below (bel2 _ _ _)))⟩
set_option maxHeartbeats 1000000 in
theorem pfail_any (g : Nat) (en er : Int) (ts : List Tok) (w : World) (h : PS w g en ts) :
  Calls Tryz.prog 41 #[.pointer (some ⟨g, 0, none⟩), .int .i64 er] w fun e w' => e = failE (failAt ts en, er) ∧ w = w' := by
 cases ts with
 | nil =>
  obtain ⟨A, c, hb, hc⟩ := h.nil
  obtain ⟨c0, c1⟩ := hb.c2
  have cf := hb.frozen
  clear hb h
  go_enter Tryz.func41, Tryz.ntmps41
  go_wp2_with fail
  exact ⟨rfl, rfl, rfl⟩
 | cons t r =>
  obtain ⟨b, off, c, hb, hlt, hne, h1, h2, t0, t1, t2, t3, hr⟩ := h.cons
  obtain ⟨c0, c1⟩ := hb.c2
  have hz : (0 : Int) < ((r.length + 1 : Nat) : Int) := by omega
  clear hb h hr
  go_enter Tryz.func41, Tryz.ntmps41
  go_wp2_with fail
  exact ⟨rfl, rfl, rfl⟩
theorem isT_cons {ts : List Tok} {k : Int} {x : List UInt8} (h : isT ts k x = true) : ∃ t r, ts = t :: r := by
 cases ts with
 | nil => simp [isT] at h
 | cons t r => exact ⟨t, r, rfl⟩
theorem kindT_cons {ts : List Tok} {k : Int} (h : kindT ts k = true) : ∃ t r, ts = t :: r := by
 cases ts with
 | nil => simp [kindT] at h
 | cons t r => exact ⟨t, r, rfl⟩
theorem tok_f1 (a b c d : Value) (W : World) : (Instr.field 103 (.agg #[a, b, c, d]) 1).run Tryz.prog W = .ok b W := by kernel_rfl
theorem tok_f2 (a b c d : Value) (W : World) : (Instr.field 103 (.agg #[a, b, c, d]) 2).run Tryz.prog W = .ok c W := by kernel_rfl
abbrev VNone (_ : Unit) (e : Ending) (_ : World) : Prop := e = .returned (.tuple #[])
abbrev VInt (n : Int) (e : Ending) (_ : World) : Prop := e = .returned (.int .i64 n)
set_option maxHeartbeats 1000000 in
theorem psymbol_any (g : Nat) (en : Int) (x : List UInt8) (u : ByteArray) (hu : u = bsL x) (ts : List Tok) (w : World) (h : PS w g en ts) :
  Calls Tryz.prog 91 #[.pointer (some ⟨g, 0, none⟩), .string u] w (RetX g en w (symbolM en x ts) VNone) := by
 subst hu
 by_cases ht : isT ts 3 x = true
 ·obtain ⟨t, r, rfl⟩ := isT_cons ht
  have hm : symbolM en x (t :: r) = .ok ((), r) := by unfold symbolM; rw [if_pos ht]; rfl
  rw [hm]
  clear hm
  go_enter Tryz.func91, Tryz.ntmps91
  go_wp2_with fail
  refine (pis_any g en 3 x _ rfl _ w h).mono ?_
  rintro e w1 ⟨rfl, rfl⟩
  rw [ht]
  go_wp2_with fail
  refine (ptake_any g en t r _ h).mono ?_
  rintro e w1 ⟨rfl, hp, ho⟩
  go_wp2_with fail
  go_end0
  exact ⟨ho, hp, rfl⟩
 ·have hm : symbolM en x ts = bad en ts 2 := by unfold symbolM; rw [if_neg ht]
  rw [hm]
  have ht2 : isT ts 3 x = false := by simpa using ht
  clear hm
  go_enter Tryz.func91, Tryz.ntmps91
  go_wp2_with fail
  refine (pis_any g en 3 x _ rfl _ w h).mono ?_
  rintro e w1 ⟨rfl, rfl⟩
  rw [ht2]
  go_wp2_with fail
  refine (pfail_any g en 2 ts _ h).mono ?_
  rintro e w1 ⟨rfl, rfl⟩
  go_wp2_with fail
  exact ⟨rfl, Only.of_below (Below.refl _ _), rfl⟩
set_option maxHeartbeats 1000000 in
theorem ptry_any (g : Nat) (en : Int) (x : List UInt8) (u : ByteArray) (hu : u = bsL x) (ts : List Tok) (w : World) (h : PS w g en ts) :
  Calls Tryz.prog 78 #[.pointer (some ⟨g, 0, none⟩), .string u] w fun e w' => e = .returned (.bool (isT ts 3 x)) ∧ PS w' g en (if isT ts 3 x then ts.tail else ts) ∧ Only g w w' := by
 subst hu
 by_cases ht : isT ts 3 x = true
 ·obtain ⟨t, r, rfl⟩ := isT_cons ht
  rw [ht, if_pos rfl]
  go_enter Tryz.func78, Tryz.ntmps78
  go_wp2_with fail
  refine (pis_any g en 3 x _ rfl _ w h).mono ?_
  rintro e w1 ⟨rfl, rfl⟩
  rw [ht]
  go_wp2_with fail
  refine (ptake_any g en t r _ h).mono ?_
  rintro e w1 ⟨rfl, hp, ho⟩
  go_wp2_with fail
  go_ret
  exact ⟨rfl, hp, ho⟩
 ·have ht2 : isT ts 3 x = false := by simpa using ht
  rw [ht2, if_neg Bool.false_ne_true]
  go_enter Tryz.func78, Tryz.ntmps78
  go_wp2_with fail
  refine (pis_any g en 3 x _ rfl _ w h).mono ?_
  rintro e w1 ⟨rfl, rfl⟩
  rw [ht2]
  go_wp2_with fail
  go_ret
  exact ⟨rfl, h, Only.of_below (Below.refl _ _)⟩
set_option maxRecDepth 100000 in
set_option maxHeartbeats 1000000 in
theorem pnumber_any (g : Nat) (en lo hi : Int) (ts : List Tok) (w : World) (h : PS w g en ts) :
  Calls Tryz.prog 102 #[.pointer (some ⟨g, 0, none⟩), .int .i64 lo, .int .i64 hi] w (RetX g en w (numberM en lo hi ts) VInt) := by
 by_cases ht : kindT ts 1 = true
 ·obtain ⟨t, r, rfl⟩ := kindT_cons ht
  obtain ⟨b, off, c, hb, hlt, hne, h1, h2, t0, t1, t2, t3, hr⟩ := h.cons
  obtain ⟨c0, c1⟩ := hb.c2
  have hz : (0 : Int) < ((r.length + 1 : Nat) : Int) := by omega
  clear hb hr
  by_cases hb : t.n < lo ∨ hi < t.n
  ·have hm : numberM en lo hi (t :: r) = bad en (t :: r) 5 := by unfold numberM; rw [if_pos ht]; exact if_pos hb
   rw [hm]
   clear hm
   go_enter Tryz.func102, Tryz.ntmps102
   go_wp2_with fail
   refine (pkind_any g en 1 _ w h).mono ?_
   rintro e w1 ⟨rfl, rfl⟩
   rw [ht]
   by_cases hl : t.n < lo
   ·go_wp2_with fail
    refine (pfail_any g en 5 _ _ h).mono ?_
    rintro e w1 ⟨rfl, rfl⟩
    go_wp2_with fail
    exact ⟨rfl, Only.of_below (Below.refl _ _), rfl⟩
   ·have hh : hi < t.n := by omega
    go_wp2_with fail
    refine (pfail_any g en 5 _ _ h).mono ?_
    rintro e w1 ⟨rfl, rfl⟩
    go_wp2_with fail
    exact ⟨rfl, Only.of_below (Below.refl _ _), rfl⟩
  ·have hm : numberM en lo hi (t :: r) = .ok (t.n, r) := by unfold numberM; rw [if_pos ht]; exact if_neg hb
   rw [hm]
   have hl : ¬ t.n < lo := by omega
   have hh : ¬ hi < t.n := by omega
   clear hm
   go_enter Tryz.func102, Tryz.ntmps102
   go_wp2_with fail
   refine (pkind_any g en 1 _ w h).mono ?_
   rintro e w1 ⟨rfl, rfl⟩
   rw [ht]
   go_wp2_with fail
   refine (ptake_any g en t r _ h).mono ?_
   rintro e w1 ⟨rfl, hp, ho⟩
   have HP := Box.mk (And.intro hp ho)
   have hfd := tok_f2 (.int .i64 t.kind) (.string (bsL t.text)) (.int .i64 t.n) (.int .i64 (t.off : Int))
   clear hp ho c0 c1 t0 t1 t2 t3 hz hl hh hb ht h h1 h2 hlt hne
   go_wp2_with fail
   go_ret
   exact ⟨HP.out.2, HP.out.1, rfl⟩
 ·have hm : numberM en lo hi ts = bad en ts 2 := by unfold numberM; rw [if_neg ht]
  rw [hm]
  have ht2 : kindT ts 1 = false := by simpa using ht
  clear hm
  go_enter Tryz.func102, Tryz.ntmps102
  go_wp2_with fail
  refine (pkind_any g en 1 _ w h).mono ?_
  rintro e w1 ⟨rfl, rfl⟩
  rw [ht2]
  go_wp2_with fail
  refine (pfail_any g en 2 ts _ h).mono ?_
  rintro e w1 ⟨rfl, rfl⟩
  go_wp2_with fail
  exact ⟨rfl, Only.of_below (Below.refl _ _), rfl⟩
end
section
open Go.RowKit FracM
abbrev Sl2 := Value × Value
abbrev insC (d : Nd) (mv bv : Value) : Array Value := #[.int .i64 d.kind, .int .i64 d.fn, .int .i64 d.win, .int .i64 d.off, .int .i64 d.k, .int .i64 d.num, .int .i64 d.den, .string d.name, mv, bv]
def insL (x : Nd × Sl2) : List Value := (insC x.1 x.2.1 x.2.2).toList
/-- an instruction's rows -/
structure InsAt (w : World) (P : Nat → Nat → Prop) (d : Nd) (mv bv : Value) : Prop where
 ok : NdOk d
 ms : SeqP w P 3 mv d.ms.length (d.ms.flatMap matCells)
 bys : SeqP w P 1 bv d.bys.length (d.bys.map Value.string)
theorem InsAt.keep {w w' : World} {P : Nat → Nat → Prop} {d : Nd} {mv bv : Value} (h : InsAt w P d mv bv) (f : Agree P w w') : InsAt w' P d mv bv := ⟨h.ok, h.ms.keep f, h.bys.keep f⟩
theorem InsAt.mono {w : World} {P Q : Nat → Nat → Prop} {d : Nd} {mv bv : Value} (h : InsAt w P d mv bv) (hq : ∀ b e, b < w.heap.size → P b e → Q b e) : InsAt w Q d mv bv := ⟨h.ok, h.ms.mono hq, h.bys.mono hq⟩
theorem InsAt.belo {w w' : World} {P : Nat → Nat → Prop} {d : Nd} {mv bv : Value} (h : InsAt w P d mv bv) (f : Below w.heap.size w w') : InsAt w' P d mv bv := h.keep (Agree.of_below f)
/-- the rows of a list of instructions -/
def InsRows (w : World) (P : Nat → Nat → Prop) (l : List Nd) (cs : List Sl2) : Prop := cs.length = l.length ∧ ∀ (i : Nat) (d : Nd) (c : Sl2), l[i]? = some d → cs[i]? = some c → InsAt w P d c.1 c.2
theorem InsRows.keep {w w' : World} {P : Nat → Nat → Prop} {l : List Nd} {cs : List Sl2} (h : InsRows w P l cs) (f : Agree P w w') : InsRows w' P l cs := ⟨h.1, fun i d c h1 h2 => (h.2 i d c h1 h2).keep f⟩
theorem InsRows.mono {w : World} {P Q : Nat → Nat → Prop} {l : List Nd} {cs : List Sl2} (h : InsRows w P l cs) (hq : ∀ b e, b < w.heap.size → P b e → Q b e) : InsRows w Q l cs := ⟨h.1, fun i d c h1 h2 => (h.2 i d c h1 h2).mono hq⟩
theorem InsRows.nil (w : World) (P : Nat → Nat → Prop) : InsRows w P [] [] := ⟨rfl, fun i d c h => by simp at h⟩
theorem InsRows.snoc {w : World} {P : Nat → Nat → Prop} {l : List Nd} {cs : List Sl2} {d : Nd} {mv bv : Value} (h : InsRows w P l cs) (hd : InsAt w P d mv bv) : InsRows w P (l ++ [d]) (cs ++ [(mv, bv)]) := by
 refine ⟨by simp [h.1], fun i e c h1 h2 => ?_⟩
 rcases Nat.lt_or_ge i l.length with hi | hi
 ·rw [List.getElem?_append_left hi] at h1
  rw [List.getElem?_append_left (by rw [h.1]; exact hi)] at h2
  exact h.2 i e c h1 h2
 ·rw [List.getElem?_append_right hi] at h1
  rw [List.getElem?_append_right (by rw [h.1]; exact hi), h.1] at h2
  cases hk : i - l.length with
  | zero => rw [hk] at h1 h2; simp at h1 h2; subst h1 h2; exact hd
  | succ k => rw [hk] at h1; simp at h1
theorem insL_len (l : List Nd) (cs : List Sl2) (h : cs.length = l.length) : ((l.zip cs).flatMap insL).length = l.length * 10 := by
 induction l generalizing cs with
 | nil => simp
 | cons d r ih =>
  cases cs with
  | nil => simp at h
  | cons c q =>
   rw [List.zip_cons_cons, List.flatMap_cons, List.length_append, ih q (by simpa using h)]
   simp only [insL, List.length_cons, List.size_toArray, Array.length_toList, List.length_nil]
   omega
/-- a plan in memory -/
structure PlanP (w : World) (P : Nat → Nat → Prop) (v : Value) (l : List Nd) : Prop where
 rows : ∃ cs : List Sl2, SeqP w P 10 v l.length ((l.zip cs).flatMap insL) ∧ InsRows w P l cs
theorem PlanP.keep {w w' : World} {P : Nat → Nat → Prop} {v : Value} {l : List Nd} (h : PlanP w P v l) (f : Agree P w w') : PlanP w' P v l := by
 obtain ⟨cs, h1, h2⟩ := h.rows
 exact ⟨cs, h1.keep f, h2.keep f⟩
theorem PlanP.mono {w : World} {P Q : Nat → Nat → Prop} {v : Value} {l : List Nd} (h : PlanP w P v l) (hq : ∀ b e, b < w.heap.size → P b e → Q b e) : PlanP w Q v l := by
 obtain ⟨cs, h1, h2⟩ := h.rows
 exact ⟨cs, h1.mono hq, h2.mono hq⟩
theorem PlanP.belo {w w' : World} {P : Nat → Nat → Prop} {v : Value} {l : List Nd} (h : PlanP w P v l) (f : Below w.heap.size w w') : PlanP w' P v l := h.keep (Agree.of_below f)
theorem PlanP.form {w : World} {P : Nat → Nat → Prop} {v : Value} {l : List Nd} (h : PlanP w P v l) : ∃ A c, v = .slice A l.length c ∧ l.length ≤ 9223372036854775807 := by
 obtain ⟨cs, h1, h2⟩ := h.rows
 exact h1.form
/-- ten cells -/
abbrev At10 (w : World) (b o : Nat) (d : Nd) (mv bv : Value) : Prop := w.cell? ⟨b, o, none⟩ = some (.int .i64 d.kind) ∧ w.cell? ⟨b, o + 1, none⟩ = some (.int .i64 d.fn) ∧ w.cell? ⟨b, o + 2, none⟩ = some (.int .i64 d.win) ∧ w.cell? ⟨b, o + 3, none⟩ = some (.int .i64 d.off) ∧ w.cell? ⟨b, o + 4, none⟩ = some (.int .i64 d.k) ∧ w.cell? ⟨b, o + 5, none⟩ = some (.int .i64 d.num) ∧ w.cell? ⟨b, o + 6, none⟩ = some (.int .i64 d.den) ∧ w.cell? ⟨b, o + 7, none⟩ = some (.string d.name) ∧ w.cell? ⟨b, o + 8, none⟩ = some mv ∧ w.cell? ⟨b, o + 9, none⟩ = some bv
theorem PlanP.at_ {w : World} {P : Nat → Nat → Prop} {A : Option Addr} {n c : Nat} {l : List Nd} (h : PlanP w P (.slice A n c) l) (i : Nat) (d : Nd) (hi : l[i]? = some d) :
  ∃ b off mv bv, A = some ⟨b, off, none⟩ ∧ b < w.heap.size ∧ (∃ z, P b z) ∧ At10 w b (off + i * 10) d mv bv ∧ InsAt w P d mv bv := by
 obtain ⟨cs, hk, hl, hr⟩ := h.rows
 have hlt : i < l.length := (List.getElem?_eq_some_iff.1 hi).1
 obtain ⟨s, hs⟩ : ∃ s, cs[i]? = some s := ⟨cs[i]'(by omega), List.getElem?_eq_getElem _⟩
 obtain ⟨mv', bv'⟩ := s
 obtain ⟨_, A', c', hv, _, _, h2⟩ := hk
 cases hv
 obtain ⟨b, off, rfl, hb, hp, hx⟩ := h2 (by omega)
 have hz : (l.zip cs)[i]? = some (d, mv', bv') := by rw [List.getElem?_zip_eq_some]; exact ⟨hi, hs⟩
 refine ⟨b, off, mv', bv', rfl, hb, ⟨_, hp⟩, ?_, hr i _ _ hi hs⟩
 have g := fun j (hj : j < 10) => flat_get insL 10 (fun _ => rfl) (l.zip cs) i j _ hz hj
 refine ⟨?_, ?_, ?_, ?_, ?_, ?_, ?_, ?_, ?_, ?_⟩
 ·exact hx _ _ ((g 0 (by omega)).trans rfl)
 ·rw [Nat.add_assoc]; exact hx _ _ ((g 1 (by omega)).trans rfl)
 ·rw [Nat.add_assoc]; exact hx _ _ ((g 2 (by omega)).trans rfl)
 ·rw [Nat.add_assoc]; exact hx _ _ ((g 3 (by omega)).trans rfl)
 ·rw [Nat.add_assoc]; exact hx _ _ ((g 4 (by omega)).trans rfl)
 ·rw [Nat.add_assoc]; exact hx _ _ ((g 5 (by omega)).trans rfl)
 ·rw [Nat.add_assoc]; exact hx _ _ ((g 6 (by omega)).trans rfl)
 ·rw [Nat.add_assoc]; exact hx _ _ ((g 7 (by omega)).trans rfl)
 ·rw [Nat.add_assoc]; exact hx _ _ ((g 8 (by omega)).trans rfl)
 ·rw [Nat.add_assoc]; exact hx _ _ ((g 9 (by omega)).trans rfl)
theorem zip_snoc (l : List Nd) (cs : List Sl2) (d : Nd) (c : Sl2) (h : cs.length = l.length) : ((l ++ [d]).zip (cs ++ [c])).flatMap insL = (l.zip cs).flatMap insL ++ insL (d, c) := by
 rw [List.zip_append (by rw [h])]
 simp
end
end Go.Proofs.YtpgdijbfkahepaaGreatDoor
