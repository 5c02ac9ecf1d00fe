/- Contracts, packed: Ko Qc Qd. -/
import Derived.Test.YtipafbppaaflcaaDoorPl3
import Derived.Test.YtipafbppaaflcaaDoorPl11
set_option linter.unusedVariables false
set_option linter.unusedSimpArgs false
namespace Go.Proofs.YtipafbppaaflcaaDoor
section
open Go.RowKit FracM
theorem bsL_inj {a b : List UInt8} : bsL a = bsL b ↔ a = b := by
 constructor
 ·intro h
  have := congrArg (fun x : ByteArray => x.data.toList) h
  simpa [bsL] using this
 ·rintro rfl; rfl
theorem bsL_beq (a b : List UInt8) : ((bsL a).toList == (bsL b).toList) = (a == b) := by
 rw [Bool.eq_iff_iff, beq_iff_eq, beq_iff_eq, ByteArray.toList_eq, ByteArray.toList_eq]
 exact ⟨fun h => bsL_inj.1 (ByteArray.ext (Array.toList_inj.mp h)), fun h => by rw [h]⟩
set_option maxHeartbeats 1000000 in
theorem pkind_any (g : Nat) (en k : Int) (ts : List Tok) (w : World) (h : PS w g en ts) :
  Calls Tryd.prog 119 #[.pointer (some ⟨g, 0, none⟩), .int .i64 k] w fun e w' => e = .returned (.bool (kindT ts k)) ∧ w = w' := by
 cases ts with
 | nil =>
  obtain ⟨A, c, hb, hc⟩ := h.nil
  obtain ⟨c0, c1⟩ := hb.c2
  have cf := hb.frozen
  clear hb h
  go_enter Tryd.func119, Tryd.ntmps119
  go_wp2_with fail
  go_ret
  exact ⟨rfl, rfl⟩
 | cons t r =>
  obtain ⟨b, off, c, hb, hlt, hne, h1, h2, t0, t1, t2, t3, hr⟩ := h.cons
  obtain ⟨c0, c1⟩ := hb.c2
  have hz : (0 : Int) < ((r.length + 1 : Nat) : Int) := by omega
  clear hb h hr
  go_enter Tryd.func119, Tryd.ntmps119
  go_wp2_with fail
  go_ret
  exact ⟨rfl, rfl⟩
set_option maxHeartbeats 1000000 in
theorem pis_any (g : Nat) (en k : Int) (x : List UInt8) (u : ByteArray) (hu : u = bsL x) (ts : List Tok) (w : World) (h : PS w g en ts) :
  Calls Tryd.prog 102 #[.pointer (some ⟨g, 0, none⟩), .int .i64 k, .string u] w fun e w' => e = .returned (.bool (isT ts k x)) ∧ w = w' := by
 cases ts with
 | nil =>
  obtain ⟨A, c, hb, hc⟩ := h.nil
  obtain ⟨c0, c1⟩ := hb.c2
  have cf := hb.frozen
  clear hb h
  go_enter Tryd.func102, Tryd.ntmps102
  go_wp2_with fail
  go_ret
  exact ⟨rfl, rfl⟩
 | cons t r =>
  obtain ⟨b, off, c, hb, hlt, hne, h1, h2, t0, t1, t2, t3, hr⟩ := h.cons
  obtain ⟨c0, c1⟩ := hb.c2
  have hz : (0 : Int) < ((r.length + 1 : Nat) : Int) := by omega
  have E2 : Box (isT (t :: r) k x = (t.kind == k && ((bsL t.text).toList == (bsL x).toList))) := ⟨by rw [bsL_beq]; rfl⟩
  clear hb h hr
  by_cases hk : t.kind = k
  ·have hk2 : (t.kind == k) = true := by simpa using hk
   go_enter Tryd.func102, Tryd.ntmps102
   go_wp2_with fail
   go_ret
   exact ⟨by rw [E2.out, hk2]; rfl, rfl⟩
  ·have hk2 : (t.kind == k) = false := by simpa using hk
   go_enter Tryd.func102, Tryd.ntmps102
   go_wp2_with fail
   go_ret
   exact ⟨by rw [E2.out, hk2]; rfl, rfl⟩
set_option maxHeartbeats 1000000 in
theorem ptake_any (g : Nat) (en : Int) (t : Tok) (r : List Tok) (w : World) (h : PS w g en (t :: r)) :
  Calls Tryd.prog 118 #[.pointer (some ⟨g, 0, none⟩)] w fun e w' => e = .returned (.agg #[.int .i64 t.kind, .string (bsL t.text), .int .i64 t.n, .int .i64 (t.off : Int)]) ∧ PS w' g en r ∧ Only g w w' := by
 obtain ⟨b, off, c, hb, hlt, hne, h1, h2, t0, t1, t2, t3, hr⟩ := h.cons
 obtain ⟨c0, c1⟩ := hb.c2
 have cf := hb.frozen
 have hz : (0 : Int) < ((r.length + 1 : Nat) : Int) := by omega
 have hg := h.lt
 have HH := Box.mk h
 have hN : Box (SeqP w (fun b _ => b < g) 4 (.slice (some ⟨b, off, none⟩) 0 0) 0 []) := ⟨⟨rfl, _, _, rfl, by omega, by unfold maxLen; omega, fun h => absurd h (by omega)⟩⟩
 clear h
 go_enter Tryd.func118, Tryd.ntmps118
 go_wp2_with fail
 ·obtain rfl : r = [] := List.eq_nil_of_length_eq_zero (by omega)
  exact bodyPost_ret (v := .agg (tokC t)) (by simp [results, Tryd.results118, go_sem]) rfl ⟨rfl, (((HH.out.put _ hN.out).alloc _).alloc _), ((Only.setCell 0 _).trans (Only.of_below (bel2 _ _ _)))⟩
 ·exact bodyPost_ret (v := .agg (tokC t)) (by simp [results, Tryd.results118, go_sem]) rfl ⟨rfl, (((HH.out.put _ hr).alloc _).alloc _), ((Only.setCell 0 _).trans (Only.of_below (bel2 _ _ _)))⟩
set_option maxHeartbeats 1000000 in
theorem pfail_any (g : Nat) (en er : Int) (ts : List Tok) (w : World) (h : PS w g en ts) :
  Calls Tryd.prog 62 #[.pointer (some ⟨g, 0, none⟩), .int .i64 er] w fun e w' => e = failE (failAt ts en, er) ∧ w = w' := by
 cases ts with
 | nil =>
  obtain ⟨A, c, hb, hc⟩ := h.nil
  obtain ⟨c0, c1⟩ := hb.c2
  have cf := hb.frozen
  clear hb h
  go_enter Tryd.func62, Tryd.ntmps62
  go_wp2_with fail
  exact ⟨rfl, rfl, rfl⟩
 | cons t r =>
  obtain ⟨b, off, c, hb, hlt, hne, h1, h2, t0, t1, t2, t3, hr⟩ := h.cons
  obtain ⟨c0, c1⟩ := hb.c2
  have hz : (0 : Int) < ((r.length + 1 : Nat) : Int) := by omega
  clear hb h hr
  go_enter Tryd.func62, Tryd.ntmps62
  go_wp2_with fail
  exact ⟨rfl, rfl, rfl⟩
theorem isT_cons {ts : List Tok} {k : Int} {x : List UInt8} (h : isT ts k x = true) : ∃ t r, ts = t :: r := by
 cases ts with
 | nil => simp [isT] at h
 | cons t r => exact ⟨t, r, rfl⟩
theorem kindT_cons {ts : List Tok} {k : Int} (h : kindT ts k = true) : ∃ t r, ts = t :: r := by
 cases ts with
 | nil => simp [kindT] at h
 | cons t r => exact ⟨t, r, rfl⟩
theorem tok_f1 (a b c d : Value) (W : World) : (Instr.field 125 (.agg #[a, b, c, d]) 1).run Tryd.prog W = .ok b W := by kernel_rfl
theorem tok_f2 (a b c d : Value) (W : World) : (Instr.field 125 (.agg #[a, b, c, d]) 2).run Tryd.prog W = .ok c W := by kernel_rfl
abbrev VNone (_ : Unit) (e : Ending) (_ : World) : Prop := e = .returned (.tuple #[])
abbrev VInt (n : Int) (e : Ending) (_ : World) : Prop := e = .returned (.int .i64 n)
set_option maxHeartbeats 1000000 in
theorem psymbol_any (g : Nat) (en : Int) (x : List UInt8) (u : ByteArray) (hu : u = bsL x) (ts : List Tok) (w : World) (h : PS w g en ts) :
  Calls Tryd.prog 120 #[.pointer (some ⟨g, 0, none⟩), .string u] w (RetX g en w (symbolM en x ts) VNone) := by
 subst hu
 by_cases ht : isT ts 3 x = true
 ·obtain ⟨t, r, rfl⟩ := isT_cons ht
  have hm : symbolM en x (t :: r) = .ok ((), r) := by unfold symbolM; rw [if_pos ht]; rfl
  rw [hm]
  clear hm
  go_enter Tryd.func120, Tryd.ntmps120
  go_wp2_with fail
  refine (pis_any g en 3 x _ rfl _ w h).mono ?_
  rintro e w1 ⟨rfl, rfl⟩
  rw [ht]
  go_wp2_with fail
  refine (ptake_any g en t r _ h).mono ?_
  rintro e w1 ⟨rfl, hp, ho⟩
  go_wp2_with fail
  go_end0
  exact ⟨ho, hp, rfl⟩
 ·have hm : symbolM en x ts = bad en ts 2 := by unfold symbolM; rw [if_neg ht]
  rw [hm]
  have ht2 : isT ts 3 x = false := by simpa using ht
  clear hm
  go_enter Tryd.func120, Tryd.ntmps120
  go_wp2_with fail
  refine (pis_any g en 3 x _ rfl _ w h).mono ?_
  rintro e w1 ⟨rfl, rfl⟩
  rw [ht2]
  go_wp2_with fail
  refine (pfail_any g en 2 ts _ h).mono ?_
  rintro e w1 ⟨rfl, rfl⟩
  go_wp2_with fail
  exact ⟨rfl, Only.of_below (Below.refl _ _), rfl⟩
set_option maxHeartbeats 1000000 in
theorem ptry_any (g : Nat) (en : Int) (x : List UInt8) (u : ByteArray) (hu : u = bsL x) (ts : List Tok) (w : World) (h : PS w g en ts) :
  Calls Tryd.prog 103 #[.pointer (some ⟨g, 0, none⟩), .string u] w fun e w' => e = .returned (.bool (isT ts 3 x)) ∧ PS w' g en (if isT ts 3 x then ts.tail else ts) ∧ Only g w w' := by
 subst hu
 by_cases ht : isT ts 3 x = true
 ·obtain ⟨t, r, rfl⟩ := isT_cons ht
  rw [ht, if_pos rfl]
  go_enter Tryd.func103, Tryd.ntmps103
  go_wp2_with fail
  refine (pis_any g en 3 x _ rfl _ w h).mono ?_
  rintro e w1 ⟨rfl, rfl⟩
  rw [ht]
  go_wp2_with fail
  refine (ptake_any g en t r _ h).mono ?_
  rintro e w1 ⟨rfl, hp, ho⟩
  go_wp2_with fail
  go_ret
  exact ⟨rfl, hp, ho⟩
 ·have ht2 : isT ts 3 x = false := by simpa using ht
  rw [ht2, if_neg Bool.false_ne_true]
  go_enter Tryd.func103, Tryd.ntmps103
  go_wp2_with fail
  refine (pis_any g en 3 x _ rfl _ w h).mono ?_
  rintro e w1 ⟨rfl, rfl⟩
  rw [ht2]
  go_wp2_with fail
  go_ret
  exact ⟨rfl, h, Only.of_below (Below.refl _ _)⟩
set_option maxRecDepth 100000 in
set_option maxHeartbeats 1000000 in
theorem pnumber_any (g : Nat) (en lo hi : Int) (ts : List Tok) (w : World) (h : PS w g en ts) :
  Calls Tryd.prog 131 #[.pointer (some ⟨g, 0, none⟩), .int .i64 lo, .int .i64 hi] w (RetX g en w (numberM en lo hi ts) VInt) := by
 by_cases ht : kindT ts 1 = true
 ·obtain ⟨t, r, rfl⟩ := kindT_cons ht
  obtain ⟨b, off, c, hb, hlt, hne, h1, h2, t0, t1, t2, t3, hr⟩ := h.cons
  obtain ⟨c0, c1⟩ := hb.c2
  have hz : (0 : Int) < ((r.length + 1 : Nat) : Int) := by omega
  clear hb hr
  by_cases hb : t.n < lo ∨ hi < t.n
  ·have hm : numberM en lo hi (t :: r) = bad en (t :: r) 5 := by unfold numberM; rw [if_pos ht]; exact if_pos hb
   rw [hm]
   clear hm
   go_enter Tryd.func131, Tryd.ntmps131
   go_wp2_with fail
   refine (pkind_any g en 1 _ w h).mono ?_
   rintro e w1 ⟨rfl, rfl⟩
   rw [ht]
   by_cases hl : t.n < lo
   ·go_wp2_with fail
    refine (pfail_any g en 5 _ _ h).mono ?_
    rintro e w1 ⟨rfl, rfl⟩
    go_wp2_with fail
    exact ⟨rfl, Only.of_below (Below.refl _ _), rfl⟩
   ·have hh : hi < t.n := by omega
    go_wp2_with fail
    refine (pfail_any g en 5 _ _ h).mono ?_
    rintro e w1 ⟨rfl, rfl⟩
    go_wp2_with fail
    exact ⟨rfl, Only.of_below (Below.refl _ _), rfl⟩
  ·have hm : numberM en lo hi (t :: r) = .ok (t.n, r) := by unfold numberM; rw [if_pos ht]; exact if_neg hb
   rw [hm]
   have hl : ¬ t.n < lo := by omega
   have hh : ¬ hi < t.n := by omega
   clear hm
   go_enter Tryd.func131, Tryd.ntmps131
   go_wp2_with fail
   refine (pkind_any g en 1 _ w h).mono ?_
   rintro e w1 ⟨rfl, rfl⟩
   rw [ht]
   go_wp2_with fail
   refine (ptake_any g en t r _ h).mono ?_
   rintro e w1 ⟨rfl, hp, ho⟩
   have HP := Box.mk (And.intro hp ho)
   have hfd := tok_f2 (.int .i64 t.kind) (.string (bsL t.text)) (.int .i64 t.n) (.int .i64 (t.off : Int))
   clear hp ho c0 c1 t0 t1 t2 t3 hz hl hh hb ht h h1 h2 hlt hne
   go_wp2_with fail
   go_ret
   exact ⟨HP.out.2, HP.out.1, rfl⟩
 ·have hm : numberM en lo hi ts = bad en ts 2 := by unfold numberM; rw [if_neg ht]
  rw [hm]
  have ht2 : kindT ts 1 = false := by simpa using ht
  clear hm
  go_enter Tryd.func131, Tryd.ntmps131
  go_wp2_with fail
  refine (pkind_any g en 1 _ w h).mono ?_
  rintro e w1 ⟨rfl, rfl⟩
  rw [ht2]
  go_wp2_with fail
  refine (pfail_any g en 2 ts _ h).mono ?_
  rintro e w1 ⟨rfl, rfl⟩
  go_wp2_with fail
  exact ⟨rfl, Only.of_below (Below.refl _ _), rfl⟩
end
section
open Go.RowKit FracM
/-- what 'count' holds -/
structure C1 (g : Nat) (w W : World) (P : Nat → Nat → Prop) (d : Nd) (ks : List Tree) (mv bv kv : Value) (cur : Int) : Prop where
 only : Only g w W
 blk : Blk W w.heap.size 29 (ndC d mv bv kv)
 nod : Nod W P d ks mv bv kv
 T : Blk W g 3 #[.int .i64 cur]
theorem C1.next {g : Nat} {w W W' : World} {P : Nat → Nat → Prop} {d : Nd} {ks : List Tree} {mv bv kv : Value} {cur cur' : Int} (h : C1 g w W P d ks mv bv kv cur) (hg : g < w.heap.size) (hP : ∀ b e, P b e → b ≠ g) (ho : Only g W W') (hT : Blk W' g 3 #[.int .i64 cur']) : C1 g w W' P d ks mv bv kv cur' :=
 ⟨h.only.trans ho, ho.blk h.blk (by omega), h.nod.keep (Agree.of_only ho hP), hT⟩
theorem C1.start {g : Nat} {w : World} {P : Nat → Nat → Prop} {d : Nd} {ks : List Tree} {mv bv kv : Value} {l cur : Int} (h : TreeAt w P (.node d ks) (mv, bv, kv)) (hP : ∀ b e, P b e → b ≠ g) (hg : Blk w g 3 #[.int .i64 l]) : C1 g w ((w.setCell ⟨g, 0, none⟩ (.int .i64 cur)).alloc (.cells (ndC d mv bv kv) 29)) P d ks mv bv kv cur := by
 have ho : Only g w ((w.setCell ⟨g, 0, none⟩ (.int .i64 cur)).alloc (.cells (ndC d mv bv kv) 29)) := (Only.setCell 0 _).trans (Only.of_below (bel1 _ _))
 exact ⟨ho, Blk.newAt _ _ (by simp [World.setCell]), (h.keep (Agree.of_only ho hP)).nod, Blk.alloc (by simpa using hg.set 0 (.int .i64 cur)) _⟩
theorem C1.start2 {g : Nat} {w : World} {P : Nat → Nat → Prop} {d : Nd} {ks : List Tree} {mv bv kv : Value} {l cur m : Int} (h : TreeAt w P (.node d ks) (mv, bv, kv)) (hP : ∀ b e, P b e → b ≠ g) (hg : Blk w g 3 #[.int .i64 l]) : C1 g w (((w.setCell ⟨g, 0, none⟩ (.int .i64 m)).setCell ⟨g, 0, none⟩ (.int .i64 cur)).alloc (.cells (ndC d mv bv kv) 29)) P d ks mv bv kv cur := by
 have ho : Only g w (((w.setCell ⟨g, 0, none⟩ (.int .i64 m)).setCell ⟨g, 0, none⟩ (.int .i64 cur)).alloc (.cells (ndC d mv bv kv) 29)) := ((Only.setCell 0 _).trans (Only.setCell 0 _)).trans (Only.of_below (bel1 _ _))
 exact ⟨ho, Blk.newAt _ _ (by simp [World.setCell]), (h.keep (Agree.of_only ho hP)).nod, Blk.alloc (by simpa using (hg.set 0 (.int .i64 m)).set 0 (.int .i64 cur)) _⟩
/-- the rest of the kids to be counted -/
def CntRel (g : Nat) (w : World) (P : Nat → Nat → Prop) (d : Nd) (ks : List Tree) (mv bv kv : Value) (dp fin : Int) (v : Value) (wr : World) : Prop :=
 ∃ (k : Nat) (cur : Int), k ≤ ks.length ∧ v = .int .i64 (k : Nat) ∧ cur ≤ 200 ∧ (12 < dp → cur < 0) ∧ C1 g w wr P d ks mv bv kv cur ∧ cntL (ks.drop k) (dp + 1) cur = fin
def CountOk (t : Tree) : Prop := ∀ (P : Nat → Nat → Prop) (w : World) (g : Nat) (dp l : Int) (s : Sl), TreeAt w P t s → (∀ b e, P b e → b ≠ g) → Blk w g 3 #[.int .i64 l] → 0 ≤ l → l ≤ 200 → 1 ≤ dp → dp ≤ 13 →
 Calls Tryd.prog 84 #[.agg (ndC t.d s.1 s.2.1 s.2.2), .int .i64 dp, .pointer (some ⟨g, 0, none⟩)] w fun e w' => e = .returned (.tuple #[]) ∧ Blk w' g 3 #[.int .i64 (cnt t dp l)] ∧ Only g w w'
set_option maxHeartbeats 2000000 in
set_option maxRecDepth 100000 in
theorem count_any : ∀ t, CountOk t := by
 refine Tree.ind ?_
 intro d ks ih P w g dp l ⟨mv, bv, kv⟩ hT hP hg h0 h1 hd1 hd2
 have HT := Box.mk hT
 have HG := Box.mk hg
 have HP := Box.mk hP
 have IH := Box.mk ih
 obtain ⟨A, c, hkv, hlen⟩ := hT.nod.kform
 subst hkv
 have c0 := hg.c1
 have cf := hg.frozen
 have gz := hg.lt
 have gn : ¬ g = w.heap.size := by omega
 have gm : ¬ w.heap.size = g := by omega
 have hfin : cnt (.node d ks) dp l = cntL ks (dp + 1) (if 12 < dp then -1 else l - 1) := by rw [cnt]
 clear hT hg hP ih
 simp only [Tree.d]
 obtain ⟨lw, hlw⟩ : ∃ z, z = l - 1 := ⟨_, rfl⟩
 have hwrap : IntKind.i64.wrap (l - 1) = lw := by rw [hlw]; exact W64_in (by omega) (by omega)
 have hdw : IntKind.i64.wrap (dp + 1) = dp + 1 := W64_in (by omega) (by omega)
 by_cases h12 : 12 < dp
 ·rw [if_pos h12, cntL_neg _ _ _ (by omega)] at hfin
  rw [hfin]
  clear hfin
  go_enter Tryd.func84, Tryd.ntmps84
  go_wp2_with fail
  go_loopw [6] (fun v wr => v = .int .i64 0 ∧ C1 g w wr P d ks mv bv (.slice A ks.length c) (-1)) (fun _ _ => 0)
  case atStart => exact ⟨rfl, C1.start2 HT.out HP.out HG.out⟩
  case round =>
   obtain ⟨rfl, h1⟩ := hrel
   have H1 := Box.mk h1
   have c1 := h1.T.c1
   have c2 := (blk11 h1.blk).2.2.2.2.2.2.2.2.2.2
   clear h1
   simp only [Nat.zero_add] at c2
   go_wp2_with fail
   all_goals
    go_end0
    exact ⟨rfl, H1.out.T, H1.out.only⟩
 ·rw [if_neg h12] at hfin
  rw [hfin]
  have HFIN := Box.mk hfin
  clear hfin
  go_enter Tryd.func84, Tryd.ntmps84
  go_wp2_with fail
  go_loopw [6] (fun v wr => CntRel g w P d ks mv bv (.slice A ks.length c) dp (cntL ks (dp + 1) (l - 1)) v wr) (fun v _ => ks.length - (intOf v).toNat)
  case atStart => exact ⟨0, l - 1, by omega, rfl, by omega, by omega, by rw [← hlw]; exact C1.start HT.out HP.out HG.out, rfl⟩
  case round =>
   obtain ⟨k, cur, hk, rfl, hc1, hc2, hC, hfin⟩ := hrel
   have HC := Box.mk hC
   have HF := Box.mk hfin
   have c1 := hC.T.c1
   have c2 := (blk11 hC.blk).2.2.2.2.2.2.2.2.2.2
   simp only [Nat.zero_add] at c2
   have cf1 := hC.T.frozen
   by_cases hn : cur < 0
   ·clear hC hfin hc1 hc2
    have hn2 : ¬ 0 ≤ cur := by omega
    go_wp2_with fail
    all_goals
     go_end0
     exact ⟨rfl, by rw [← HF.out, cntL_neg _ _ _ hn]; exact HC.out.T, HC.out.only⟩
   by_cases hlt : k < ks.length
   ·obtain ⟨x, hx⟩ : ∃ x, ks[k]? = some x := ⟨ks[k], List.getElem?_eq_getElem _⟩
    obtain ⟨e, es⟩ := x
    obtain ⟨b, off, mv', bv', kv', rfl, hb, hpb, ⟨k0, k1, k2, k3, k4, k5, k6, k7, k8, k9, k10⟩, hT'⟩ := hC.nod.kid k e es hx
    have HT' := Box.mk hT'
    have HX := Box.mk hx
    have hn2 : 0 ≤ cur := by omega
    have hlt2 : (k : Int) < (ks.length : Int) := by omega
    clear hC hfin hT' hx hn
    go_wp2_with fail
    refine (IH.out (.node e es) (List.mem_of_getElem? HX.out) P _ g _ _ (mv', bv', kv') HT'.out HP.out HC.out.T (by omega) hc1 (by omega) (by omega)).mono ?_
    rintro e1 w1 ⟨rfl, hT1, ho1⟩
    have HC1 := Box.mk (HC.out.next gz HP.out ho1 hT1)
    clear hT1 ho1 c1 c2 cf1 k0 k1 k2 k3 k4 k5 k6 k7 k8 k9 k10
    go_wp2_with fail
    go_roundw
    case rel =>
     refine ⟨k + 1, cnt (.node e es) (dp + 1) cur, by omega, by go_num, ?_, by omega, HC1.out, ?_⟩
     ·obtain ⟨q1, q2⟩ := cnt_ok (.node e es) (dp + 1) cur hn2
      by_cases hq : (nds (.node e es) : Int) ≤ cur ∧ dp + 1 + dep (.node e es) ≤ 13
      ·rw [q1 hq]; omega
      ·have := q2 hq; omega
     ·rw [← HF.out, List.drop_eq_getElem_cons (by omega : k < ks.length), cntL, if_neg (by omega)]
      rw [(List.getElem?_eq_some_iff.1 HX.out).2]
    case measure => simp [intOf]; omega
   ·have hk2 : k = ks.length := by omega
    have hlt2 : ¬ (k : Int) < (ks.length : Int) := by omega
    clear hC hfin
    go_wp2_with fail
    all_goals
     go_end0
     exact ⟨rfl, by rw [← HF.out, List.drop_eq_nil_of_le (by omega), cntL]; exact HC.out.T, HC.out.only⟩
end
section
open Go.RowKit FracM
theorem TreeAt.low {w : World} {P : Nat → Nat → Prop} {t : Tree} {s : Sl} (h : TreeAt w P t s) : TreeAt w (fun b _ => b < w.heap.size) t s := h.mono fun _ _ hb _ => hb
theorem Only.low {g B : Nat} {w w' : World} (h : Only g w w') (hB : B ≤ g) (hw : B ≤ w.heap.size) : Below B w w' := h.below hB hw
set_option maxHeartbeats 1000000 in
theorem fits_any (t : Tree) (P : Nat → Nat → Prop) (w : World) (s : Sl) (hT : TreeAt w P t s) : Calls Tryd.prog 63 #[.agg (ndC t.d s.1 s.2.1 s.2.2)] w (RetB (.bool (fitB t)) w) := by
 have HT := Box.mk hT.low
 clear hT
 obtain ⟨mv, bv, kv⟩ := s
 obtain ⟨q, hq⟩ : ∃ q, q = cnt t 1 200 := ⟨_, rfl⟩
 have HQ := Box.mk hq
 have HE := Box.mk (fit_eq t)
 go_enter Tryd.func63, Tryd.ntmps63
 go_wp2_with fail
 refine (count_any t _ _ (w.heap.size + 1) _ _ (mv, bv, kv) (HT.out.belo (bel2 _ _ _)) (fun b _ hb => by omega) (Blk.newAt _ _ (by simp)) (by omega) (by omega) (by omega) (by omega)).mono ?_
 rintro e w1 ⟨rfl, h1, h3⟩
 rw [← hq] at h1
 have HB : Box (Below w.heap.size w w1) := ⟨(bel2 _ _ _).trans (h3.below (by omega) (by simp; omega))⟩
 have c1 := h1.c1
 clear h1 h3 hq
 go_wp2_with fail
 go_ret
 exact ⟨ret_bool (by rw [← HE.out, ← HQ.out]), HB.out⟩
theorem len0 {α : Type} (l : List α) : (((l.length : Nat) : Int) == 0) = l.isEmpty := by cases l <;> simp <;> omega
set_option maxHeartbeats 4000000 in
set_option maxRecDepth 100000 in
theorem shaped_any (d : Nd) (ks : List Tree) (P : Nat → Nat → Prop) (w : World) (mv bv kv : Value) (hT : TreeAt w P (.node d ks) (mv, bv, kv)) : Calls Tryd.prog 91 #[.agg (ndC d mv bv kv)] w (RetB (.bool (shapedB d ks.length)) w) := by
 have HN := Lib.hid (N1.start hT)
 obtain ⟨A1, n1, rfl, l1⟩ := hT.nod.ms.form
 obtain ⟨A2, n2, rfl, l2⟩ := hT.nod.bys.form
 obtain ⟨A3, n3, rfl, l3⟩ := hT.nod.kform
 have HO := Box.mk hT.nod.ok
 clear hT
 go_enter Tryd.func91, Tryd.ntmps91
 go_upto_region 1 with (fail)
 generalize w.alloc (.cells (ndC d _ _ _) 29) = W at HN ⊢
 obtain ⟨c0, c1, c2, c3, c4, c5, c6, c7, c8, c9, c10⟩ := HN.out.c
 simp only [Nat.zero_add] at c1 c2 c3 c4 c5 c6 c7 c8 c9 c10
 go_cut [3] (fun x wx => ∃ ns : Bool, x = .bool ns ∧ W = wx ∧ Box (ns = noSelB d))
 case first =>
  go_wp2_with fail
  all_goals
   go_meet
   refine ⟨_, rfl, rfl, ⟨?_⟩⟩
   unfold noSelB
   simp_all [len0]
 case rest =>
  obtain ⟨ns, rfl, rfl, HS⟩ := hcut
  go_upto_region 2 with (fail)
  go_cut [4] (fun x wx => ∃ nn : Bool, x = .bool nn ∧ W = wx ∧ Box (nn = noNumB d))
  case first =>
   go_wp2_with fail
   all_goals
    go_meet
    refine ⟨_, rfl, rfl, ⟨?_⟩⟩
    unfold noNumB
    simp_all
  case rest =>
   obtain ⟨nn, rfl, rfl, HU⟩ := hcut
   go_upto_region 3 with (fail)
   obtain ⟨⟨-, -, -, -, -, ⟨b1, b2⟩, ⟨b3, b4⟩⟩, -, -, -⟩ := HO.out
   go_wp2_with (go_at_call 111; refine (fvalid_any _ _ _ b1 b2 b3 b4).mono ?_; rintro e w' ⟨rfl, hb1⟩; have HB1 := Lib.hid (HN.out.next hb1); clear hb1)
   all_goals
    go_ret
    refine ⟨ret_bool ?_, by first | exact HN.out.below | exact HB1.out.below⟩
    unfold shapedB
    simp only [← HS.out, ← HU.out]
    simp_all [len0]
    try (intros; omega)
set_option maxHeartbeats 4000000 in
set_option maxRecDepth 100000 in
theorem ranged_any (d : Nd) (ks : List Tree) (P : Nat → Nat → Prop) (w : World) (mv bv kv : Value) (hT : TreeAt w P (.node d ks) (mv, bv, kv)) : Calls Tryd.prog 93 #[.agg (ndC d mv bv kv)] w (RetB (.bool (rangedB d)) w) := by
 have HN := Lib.hid (N1.start hT)
 have HO := Box.mk hT.nod.ok
 clear hT
 go_enter Tryd.func93, Tryd.ntmps93
 go_upto_region 1 with (fail)
 generalize w.alloc (.cells (ndC d _ _ _) 29) = W at HN ⊢
 obtain ⟨c0, c1, c2, c3, c4, c5, c6, c7, c8, c9, c10⟩ := HN.out.c
 simp only [Nat.zero_add] at c1 c2 c3 c4 c5 c6 c7 c8 c9 c10
 go_wp2_with fail
 all_goals
  go_ret
  refine ⟨ret_bool ?_, HN.out.below⟩
  unfold rangedB
  simp_all
  try (intros; omega)
end
end Go.Proofs.YtipafbppaaflcaaDoor
