/- Contracts, packed: Ko. -/
import Derived.Test.YthoibeajhdhdhaaDoorPr18
set_option linter.unusedVariables false
set_option linter.unusedSimpArgs false
namespace Go.Proofs.YthoibeajhdhdhaaDoor
section
open Go.RowKit FracM

theorem bsL_inj {a b : List UInt8} : bsL a = bsL b ↔ a = b := by
  constructor
  · intro h
    have := congrArg (fun x : ByteArray => x.data.toList) h
    simpa [bsL] using this
  · rintro rfl; rfl
theorem bsL_beq (a b : List UInt8) : ((bsL a).toList == (bsL b).toList) = (a == b) := by
  rw [Bool.eq_iff_iff, beq_iff_eq, beq_iff_eq, ByteArray.toList_eq, ByteArray.toList_eq]
  exact ⟨fun h => bsL_inj.1 (ByteArray.ext (Array.toList_inj.mp h)), fun h => by rw [h]⟩
set_option maxHeartbeats 1000000 in
theorem pkind_any (g : Nat) (en k : Int) (ts : List Tok) (w : World) (h : PS w g en ts) :
    Calls Tryd.prog 87 #[.pointer (some ⟨g, 0, none⟩), .int .i64 k] w fun e w' => e = .returned (.bool (kindT ts k)) ∧ w = w' := by
  cases ts with
  | nil =>
    obtain ⟨A, c, hb, hc⟩ := h.nil
    obtain ⟨c0, c1⟩ := hb.c2
    have cf := hb.frozen
    clear hb h
    go_enter Tryd.func87, Tryd.ntmps87
    go_wp2_with fail
    go_ret
    exact ⟨rfl, rfl⟩
  | cons t r =>
    obtain ⟨b, off, c, hb, hlt, hne, h1, h2, t0, t1, t2, t3, hr⟩ := h.cons
    obtain ⟨c0, c1⟩ := hb.c2
    have hz : (0 : Int) < ((r.length + 1 : Nat) : Int) := by omega
    clear hb h hr
    go_enter Tryd.func87, Tryd.ntmps87
    go_wp2_with fail
    go_ret
    exact ⟨rfl, rfl⟩
set_option maxHeartbeats 1000000 in
theorem pis_any (g : Nat) (en k : Int) (x : List UInt8) (u : ByteArray) (hu : u = bsL x) (ts : List Tok) (w : World) (h : PS w g en ts) :
    Calls Tryd.prog 65 #[.pointer (some ⟨g, 0, none⟩), .int .i64 k, .string u] w fun e w' => e = .returned (.bool (isT ts k x)) ∧ w = w' := by
  cases ts with
  | nil =>
    obtain ⟨A, c, hb, hc⟩ := h.nil
    obtain ⟨c0, c1⟩ := hb.c2
    have cf := hb.frozen
    clear hb h
    go_enter Tryd.func65, Tryd.ntmps65
    go_wp2_with fail
    go_ret
    exact ⟨rfl, rfl⟩
  | cons t r =>
    obtain ⟨b, off, c, hb, hlt, hne, h1, h2, t0, t1, t2, t3, hr⟩ := h.cons
    obtain ⟨c0, c1⟩ := hb.c2
    have hz : (0 : Int) < ((r.length + 1 : Nat) : Int) := by omega
    have E2 : Box (isT (t :: r) k x = (t.kind == k && ((bsL t.text).toList == (bsL x).toList))) := ⟨by rw [bsL_beq]; rfl⟩
    clear hb h hr
    by_cases hk : t.kind = k
    · have hk2 : (t.kind == k) = true := by simpa using hk
      go_enter Tryd.func65, Tryd.ntmps65
      go_wp2_with fail
      go_ret
      exact ⟨by rw [E2.out, hk2]; rfl, rfl⟩
    · have hk2 : (t.kind == k) = false := by simpa using hk
      go_enter Tryd.func65, Tryd.ntmps65
      go_wp2_with fail
      go_ret
      exact ⟨by rw [E2.out, hk2]; rfl, rfl⟩
set_option maxHeartbeats 1000000 in
theorem ptake_any (g : Nat) (en : Int) (t : Tok) (r : List Tok) (w : World) (h : PS w g en (t :: r)) :
    Calls Tryd.prog 86 #[.pointer (some ⟨g, 0, none⟩)] w fun e w' => e = .returned (.agg #[.int .i64 t.kind, .string (bsL t.text), .int .i64 t.n, .int .i64 (t.off : Int)]) ∧ PS w' g en r ∧ Only g w w' := by
  obtain ⟨b, off, c, hb, hlt, hne, h1, h2, t0, t1, t2, t3, hr⟩ := h.cons
  obtain ⟨c0, c1⟩ := hb.c2
  have cf := hb.frozen
  have hz : (0 : Int) < ((r.length + 1 : Nat) : Int) := by omega
  have hg := h.lt
  have HH := Box.mk h
  have hN : Box (SeqP w (fun b _ => b < g) 4 (.slice (some ⟨b, off, none⟩) 0 0) 0 []) := ⟨⟨rfl, _, _, rfl, by omega, by unfold maxLen; omega, fun h => absurd h (by omega)⟩⟩
  clear h
  go_enter Tryd.func86, Tryd.ntmps86
  go_wp2_with fail
  · obtain rfl : r = [] := List.eq_nil_of_length_eq_zero (by omega)
    exact bodyPost_ret (v := .agg (tokC t)) (by simp [results, Tryd.results86, go_sem]) rfl ⟨rfl, (((HH.out.put _ hN.out).alloc _).alloc _), ((Only.setCell 0 _).trans (Only.of_below (bel2 _ _ _)))⟩
  · exact bodyPost_ret (v := .agg (tokC t)) (by simp [results, Tryd.results86, go_sem]) rfl ⟨rfl, (((HH.out.put _ hr).alloc _).alloc _), ((Only.setCell 0 _).trans (Only.of_below (bel2 _ _ _)))⟩
set_option maxHeartbeats 1000000 in
theorem pfail_any (g : Nat) (en er : Int) (ts : List Tok) (w : World) (h : PS w g en ts) :
    Calls Tryd.prog 24 #[.pointer (some ⟨g, 0, none⟩), .int .i64 er] w fun e w' => e = failE (failAt ts en, er) ∧ w = w' := by
  cases ts with
  | nil =>
    obtain ⟨A, c, hb, hc⟩ := h.nil
    obtain ⟨c0, c1⟩ := hb.c2
    have cf := hb.frozen
    clear hb h
    go_enter Tryd.func24, Tryd.ntmps24
    go_wp2_with fail
    exact ⟨rfl, rfl, rfl⟩
  | cons t r =>
    obtain ⟨b, off, c, hb, hlt, hne, h1, h2, t0, t1, t2, t3, hr⟩ := h.cons
    obtain ⟨c0, c1⟩ := hb.c2
    have hz : (0 : Int) < ((r.length + 1 : Nat) : Int) := by omega
    clear hb h hr
    go_enter Tryd.func24, Tryd.ntmps24
    go_wp2_with fail
    exact ⟨rfl, rfl, rfl⟩
theorem isT_cons {ts : List Tok} {k : Int} {x : List UInt8} (h : isT ts k x = true) : ∃ t r, ts = t :: r := by
  cases ts with
  | nil => simp [isT] at h
  | cons t r => exact ⟨t, r, rfl⟩
theorem kindT_cons {ts : List Tok} {k : Int} (h : kindT ts k = true) : ∃ t r, ts = t :: r := by
  cases ts with
  | nil => simp [kindT] at h
  | cons t r => exact ⟨t, r, rfl⟩
theorem tok_f1 (a b c d : Value) (W : World) : (Instr.field 91 (.agg #[a, b, c, d]) 1).run Tryd.prog W = .ok b W := by kernel_rfl
theorem tok_f2 (a b c d : Value) (W : World) : (Instr.field 91 (.agg #[a, b, c, d]) 2).run Tryd.prog W = .ok c W := by kernel_rfl
abbrev VNone (_ : Unit) (e : Ending) (_ : World) : Prop := e = .returned (.tuple #[])
abbrev VInt (n : Int) (e : Ending) (_ : World) : Prop := e = .returned (.int .i64 n)
set_option maxHeartbeats 1000000 in
theorem psymbol_any (g : Nat) (en : Int) (x : List UInt8) (u : ByteArray) (hu : u = bsL x) (ts : List Tok) (w : World) (h : PS w g en ts) :
    Calls Tryd.prog 88 #[.pointer (some ⟨g, 0, none⟩), .string u] w (RetX g en w (symbolM en x ts) VNone) := by
  subst hu
  by_cases ht : isT ts 3 x = true
  · obtain ⟨t, r, rfl⟩ := isT_cons ht
    have hm : symbolM en x (t :: r) = .ok ((), r) := by unfold symbolM; rw [if_pos ht]; rfl
    rw [hm]
    clear hm
    go_enter Tryd.func88, Tryd.ntmps88
    go_wp2_with fail
    refine (pis_any g en 3 x _ rfl _ w h).mono ?_
    rintro e w1 ⟨rfl, rfl⟩
    rw [ht]
    go_wp2_with fail
    refine (ptake_any g en t r _ h).mono ?_
    rintro e w1 ⟨rfl, hp, ho⟩
    go_wp2_with fail
    go_end0
    exact ⟨ho, hp, rfl⟩
  · have hm : symbolM en x ts = bad en ts 2 := by unfold symbolM; rw [if_neg ht]
    rw [hm]
    have ht2 : isT ts 3 x = false := by simpa using ht
    clear hm
    go_enter Tryd.func88, Tryd.ntmps88
    go_wp2_with fail
    refine (pis_any g en 3 x _ rfl _ w h).mono ?_
    rintro e w1 ⟨rfl, rfl⟩
    rw [ht2]
    go_wp2_with fail
    refine (pfail_any g en 2 ts _ h).mono ?_
    rintro e w1 ⟨rfl, rfl⟩
    go_wp2_with fail
    exact ⟨rfl, Only.of_below (Below.refl _ _), rfl⟩
set_option maxHeartbeats 1000000 in
theorem ptry_any (g : Nat) (en : Int) (x : List UInt8) (u : ByteArray) (hu : u = bsL x) (ts : List Tok) (w : World) (h : PS w g en ts) :
    Calls Tryd.prog 66 #[.pointer (some ⟨g, 0, none⟩), .string u] w fun e w' => e = .returned (.bool (isT ts 3 x)) ∧ PS w' g en (if isT ts 3 x then ts.tail else ts) ∧ Only g w w' := by
  subst hu
  by_cases ht : isT ts 3 x = true
  · obtain ⟨t, r, rfl⟩ := isT_cons ht
    rw [ht, if_pos rfl]
    go_enter Tryd.func66, Tryd.ntmps66
    go_wp2_with fail
    refine (pis_any g en 3 x _ rfl _ w h).mono ?_
    rintro e w1 ⟨rfl, rfl⟩
    rw [ht]
    go_wp2_with fail
    refine (ptake_any g en t r _ h).mono ?_
    rintro e w1 ⟨rfl, hp, ho⟩
    go_wp2_with fail
    go_ret
    exact ⟨rfl, hp, ho⟩
  · have ht2 : isT ts 3 x = false := by simpa using ht
    rw [ht2, if_neg Bool.false_ne_true]
    go_enter Tryd.func66, Tryd.ntmps66
    go_wp2_with fail
    refine (pis_any g en 3 x _ rfl _ w h).mono ?_
    rintro e w1 ⟨rfl, rfl⟩
    rw [ht2]
    go_wp2_with fail
    go_ret
    exact ⟨rfl, h, Only.of_below (Below.refl _ _)⟩
set_option maxRecDepth 100000 in
set_option maxHeartbeats 1000000 in
theorem pnumber_any (g : Nat) (en lo hi : Int) (ts : List Tok) (w : World) (h : PS w g en ts) :
    Calls Tryd.prog 100 #[.pointer (some ⟨g, 0, none⟩), .int .i64 lo, .int .i64 hi] w (RetX g en w (numberM en lo hi ts) VInt) := by
  by_cases ht : kindT ts 1 = true
  · obtain ⟨t, r, rfl⟩ := kindT_cons ht
    obtain ⟨b, off, c, hb, hlt, hne, h1, h2, t0, t1, t2, t3, hr⟩ := h.cons
    obtain ⟨c0, c1⟩ := hb.c2
    have hz : (0 : Int) < ((r.length + 1 : Nat) : Int) := by omega
    clear hb hr
    by_cases hb : t.n < lo ∨ hi < t.n
    · have hm : numberM en lo hi (t :: r) = bad en (t :: r) 5 := by unfold numberM; rw [if_pos ht]; exact if_pos hb
      rw [hm]
      clear hm
      go_enter Tryd.func100, Tryd.ntmps100
      go_wp2_with fail
      refine (pkind_any g en 1 _ w h).mono ?_
      rintro e w1 ⟨rfl, rfl⟩
      rw [ht]
      by_cases hl : t.n < lo
      · go_wp2_with fail
        refine (pfail_any g en 5 _ _ h).mono ?_
        rintro e w1 ⟨rfl, rfl⟩
        go_wp2_with fail
        exact ⟨rfl, Only.of_below (Below.refl _ _), rfl⟩
      · have hh : hi < t.n := by omega
        go_wp2_with fail
        refine (pfail_any g en 5 _ _ h).mono ?_
        rintro e w1 ⟨rfl, rfl⟩
        go_wp2_with fail
        exact ⟨rfl, Only.of_below (Below.refl _ _), rfl⟩
    · have hm : numberM en lo hi (t :: r) = .ok (t.n, r) := by unfold numberM; rw [if_pos ht]; exact if_neg hb
      rw [hm]
      have hl : ¬ t.n < lo := by omega
      have hh : ¬ hi < t.n := by omega
      clear hm
      go_enter Tryd.func100, Tryd.ntmps100
      go_wp2_with fail
      refine (pkind_any g en 1 _ w h).mono ?_
      rintro e w1 ⟨rfl, rfl⟩
      rw [ht]
      go_wp2_with fail
      refine (ptake_any g en t r _ h).mono ?_
      rintro e w1 ⟨rfl, hp, ho⟩
      have HP := Box.mk (And.intro hp ho)
      have hfd := tok_f2 (.int .i64 t.kind) (.string (bsL t.text)) (.int .i64 t.n) (.int .i64 (t.off : Int))
      clear hp ho c0 c1 t0 t1 t2 t3 hz hl hh hb ht h h1 h2 hlt hne
      go_wp2_with fail
      go_ret
      exact ⟨HP.out.2, HP.out.1, rfl⟩
  · have hm : numberM en lo hi ts = bad en ts 2 := by unfold numberM; rw [if_neg ht]
    rw [hm]
    have ht2 : kindT ts 1 = false := by simpa using ht
    clear hm
    go_enter Tryd.func100, Tryd.ntmps100
    go_wp2_with fail
    refine (pkind_any g en 1 _ w h).mono ?_
    rintro e w1 ⟨rfl, rfl⟩
    rw [ht2]
    go_wp2_with fail
    refine (pfail_any g en 2 ts _ h).mono ?_
    rintro e w1 ⟨rfl, rfl⟩
    go_wp2_with fail
    exact ⟨rfl, Only.of_below (Below.refl _ _), rfl⟩
end
end Go.Proofs.YthoibeajhdhdhaaDoor
