/- Contracts, packed: Oe. -/
import Derived.Test.YthoibeajhdhdhaaGreatDoorPy31
set_option linter.unusedVariables false
set_option linter.unusedSimpArgs false
namespace Go.Proofs.YthoibeajhdhdhaaGreatDoor
section
open Go.RowKit FracM
/-- how a function of the parser ends that begins without an error -/
def RetR {α : Type} (g : Nat) (A : Option Addr) (c : Nat) (N : Int) (toks : List Tok) (w : World) (r : Res α) (V : α → Value → World → Prop) (G : Value → Prop) (e : Ending) (w' : World) : Prop :=
 Only g w w' ∧ ∃ v, e = .returned v ∧ match r with
 | .ok (a, us) => (∃ i, toks.drop i = us ∧ RP w' g A c N toks i 0 0) ∧ V a v w'
 | .error f => f.2 ≠ 0 ∧ (∃ i, RP w' g A c N toks i f.1 f.2) ∧ G v
/-- .. with an error -/
def RetE (g : Nat) (A : Option Addr) (c : Nat) (N : Int) (toks : List Tok) (w : World) (i : Nat) (f : Int × Int) (G : Value → Prop) (e : Ending) (w' : World) : Prop :=
 Only g w w' ∧ ∃ v, e = .returned v ∧ RP w' g A c N toks i f.1 f.2 ∧ G v
theorem RetR.ok {α : Type} {g : Nat} {A : Option Addr} {c : Nat} {N : Int} {toks : List Tok} {w w' : World} {r : Res α} {V : α → Value → World → Prop} {G : Value → Prop} {a : α} {us : List Tok} {v : Value} {i : Nat} (hr : r = .ok (a, us)) (ho : Only g w w') (hi : toks.drop i = us) (hp : RP w' g A c N toks i 0 0) (hv : V a v w') : RetR g A c N toks w r V G (.returned v) w' := by
 subst hr; exact ⟨ho, v, rfl, ⟨i, hi, hp⟩, hv⟩
theorem RetR.er {α : Type} {g : Nat} {A : Option Addr} {c : Nat} {N : Int} {toks : List Tok} {w w' : World} {r : Res α} {V : α → Value → World → Prop} {G : Value → Prop} {a e : Int} {v : Value} {i : Nat} (hr : r = .error (a, e)) (he : e ≠ 0) (ho : Only g w w') (hp : RP w' g A c N toks i a e) (hv : G v) : RetR g A c N toks w r V G (.returned v) w' := by
 subst hr; exact ⟨ho, v, rfl, he, ⟨i, hp⟩, hv⟩
theorem RetR.cases {α : Type} {g : Nat} {A : Option Addr} {c : Nat} {N : Int} {toks : List Tok} {w w' : World} {r : Res α} {V : α → Value → World → Prop} {G : Value → Prop} {e : Ending} (h : RetR g A c N toks w r V G e w') :
  Only g w w' ∧ ((∃ a us v i, r = .ok (a, us) ∧ e = .returned v ∧ toks.drop i = us ∧ RP w' g A c N toks i 0 0 ∧ V a v w') ∨ (∃ a er v i, r = .error (a, er) ∧ e = .returned v ∧ er ≠ 0 ∧ RP w' g A c N toks i a er ∧ G v)) := by
 obtain ⟨ho, v, rfl, h⟩ := h
 refine ⟨ho, ?_⟩
 match r, h with
 | .ok (a, us), h => exact .inl ⟨a, us, v, h.1.choose, rfl, rfl, h.1.choose_spec.1, h.1.choose_spec.2, h.2⟩
 | .error (a, er), h => exact .inr ⟨a, er, v, h.2.1.choose, rfl, rfl, h.1, h.2.1.choose_spec, h.2.2⟩
/-- a symbol -/
def SymX (x : List UInt8) : Prop := ∃ ch r, x = ch :: r ∧ letB ch = false
theorem isX_sym {ts : List Tok} {x : List UInt8} (hw : ∀ t ∈ ts, TokWf t) (hx : SymX x) : isX ts x = isT ts 3 x := by
 cases ts with
 | nil => rfl
 | cons t r =>
  show ((t.kind == 0 || t.kind == 3) && t.text == x) = (t.kind == 3 && t.text == x)
  by_cases h0 : t.kind = 0
  ·have hne : (t.text == x) = false := by
    obtain ⟨ch, r, e, hl⟩ := (hw t (by simp)).w h0
    obtain ⟨ch', r', e', hl'⟩ := hx
    rw [beq_eq_false_iff_ne]
    rintro rfl
    rw [e] at e'
    injection e' with e1 e2
    rw [e1, hl'] at hl
    cases hl
   rw [hne]; simp
  ·have e0 : (t.kind == 0) = false := by simpa using h0
   rw [e0]; rfl
theorem isX_by {ts : List Tok} (hw : ∀ t ∈ ts, TokWf t) : isX ts sBy = isT ts 0 sBy := by
 cases ts with
 | nil => rfl
 | cons t r =>
  show ((t.kind == 0 || t.kind == 3) && t.text == sBy) = (t.kind == 0 && t.text == sBy)
  by_cases h3 : t.kind = 3
  ·have hne : (t.text == sBy) = false := by
    obtain ⟨ch, r, e, hl⟩ := (hw t (by simp)).s h3
    rw [beq_eq_false_iff_ne]
    intro h
    rw [e] at h
    injection h with e1 e2
    rw [e1] at hl
    exact absurd hl (by decide)
   rw [hne]; simp
  ·have e3 : (t.kind == 3) = false := by simpa using h3
   rw [e3, Bool.or_false]
theorem RP.wfd {w : World} {g : Nat} {A : Option Addr} {c : Nat} {N : Int} {toks : List Tok} {i : Nat} {a e : Int} (h : RP w g A c N toks i a e) (k : Nat) : ∀ t ∈ toks.drop k, TokWf t := fun t ht => h.wf t (List.mem_of_mem_drop ht)
theorem isT_lt {toks : List Tok} {i : Nat} {k : Int} {x : List UInt8} (h : isT (toks.drop i) k x = true) : i < toks.length := by
 obtain ⟨t, r, e⟩ := isT_cons h
 exact (drop_cons e).2.2
abbrev GNone (v : Value) : Prop := v = .tuple #[]
abbrev VNoneR (_ : Unit) (v : Value) (_ : World) : Prop := v = .tuple #[]
set_option maxHeartbeats 1000000 in
theorem rexpect_good {w : World} {g : Nat} {A : Option Addr} {c : Nat} {N : Int} {toks : List Tok} {i : Nat} (x : List UInt8) (u : ByteArray) (hu : u = bsL x) (hx : SymX x) (h : RP w g A c N toks i 0 0) : Calls Tryz.prog 146 #[.pointer (some ⟨g, 0, none⟩), .string u] w (RetR g A c N toks w (symbolM N x (toks.drop i)) VNoneR GNone) := by
 have H := Box.mk h
 obtain ⟨q, hq⟩ : ∃ q, isX (toks.drop i) x = q := ⟨_, rfl⟩
 have HQ := Box.mk hq
 have HT : Box (isT (toks.drop i) 3 x = q) := ⟨by rw [← isX_sym (h.wfd i) hx]; exact hq⟩
 have HU := Box.mk hu
 clear h hq hu hx
 go_enter Tryz.func146, Tryz.ntmps146
 go_wp2_with fail
 refine (ris_any x u HU.out H.out).mono ?_
 rintro e w1 ⟨rfl, m, rfl⟩
 rw [HQ.out]
 have H1 := Box.mk (H.out.drewN m)
 have HO : Box (Only g w (w.drewN m)) := ⟨Only.of_below (below_drewN _ _)⟩
 generalize w.drewN m = W at H1 HO ⊢
 cases q
 ·have HR : Box (symbolM N x (toks.drop i) = .error (failAt (toks.drop i) N, 2)) := ⟨by unfold symbolM; rw [if_neg (by rw [HT.out]; simp)]; rfl⟩
  go_wp2_with fail
  refine (rfail_good 2 H1.out).mono ?_
  rintro e w2 ⟨rfl, ho, hp⟩
  have H2 := Box.mk hp
  have HO2 := Box.mk (HO.out.trans ho)
  clear ho hp
  go_wp2_with fail
  refine (rtake_bad (by omega) H2.out).mono ?_
  rintro e w3 ⟨rfl, rfl⟩
  go_wp2_with fail
  go_end0
  exact RetR.er HR.out (by omega) HO2.out H2.out rfl
 ·have HR : Box (symbolM N x (toks.drop i) = .ok ((), (toks.drop i).tail)) := ⟨by unfold symbolM; rw [if_pos (by rw [HT.out])]⟩
  have hlt := isT_lt HT.out
  go_wp2_with fail
  refine (rtake_good H1.out hlt).mono ?_
  rintro e w3 ⟨rfl, ho, hp⟩
  have H2 := Box.mk hp
  have HO2 := Box.mk (HO.out.trans ho)
  clear ho hp
  go_wp2_with fail
  go_end0
  exact RetR.ok HR.out HO2.out (by rw [List.tail_drop]) H2.out rfl
set_option maxHeartbeats 1000000 in
theorem rexpect_bad {w : World} {g : Nat} {A : Option Addr} {c : Nat} {N : Int} {toks : List Tok} {i : Nat} {a e : Int} (u : ByteArray) (he : e ≠ 0) (h : RP w g A c N toks i a e) : Calls Tryz.prog 146 #[.pointer (some ⟨g, 0, none⟩), .string u] w (RetE g A c N toks w i (a, e) GNone) := by
 have H := Box.mk h
 have HU : Box (u = bsL u.data.toList) := ⟨by unfold bsL; apply ByteArray.ext; simp⟩
 have HE := Box.mk he
 clear h he
 go_enter Tryz.func146, Tryz.ntmps146
 go_wp2_with fail
 refine (ris_any u.data.toList u HU.out H.out).mono ?_
 rintro e' w1 ⟨rfl, m, rfl⟩
 have H1 := Box.mk (H.out.drewN m)
 have HO : Box (Only g w (w.drewN m)) := ⟨Only.of_below (below_drewN _ _)⟩
 generalize w.drewN m = W at H1 HO ⊢
 generalize isX (toks.drop i) u.data.toList = q
 cases q
 ·go_wp2_with fail
  refine (rfail_bad 2 HE.out H1.out).mono ?_
  rintro e' w2 ⟨rfl, rfl⟩
  go_wp2_with fail
  refine (rtake_bad HE.out H1.out).mono ?_
  rintro e' w3 ⟨rfl, rfl⟩
  go_wp2_with fail
  go_end0
  exact ⟨HO.out, _, rfl, H1.out, rfl⟩
 ·go_wp2_with fail
  refine (rtake_bad HE.out H1.out).mono ?_
  rintro e' w3 ⟨rfl, rfl⟩
  go_wp2_with fail
  go_end0
  exact ⟨HO.out, _, rfl, H1.out, rfl⟩
abbrev GInt (v : Value) : Prop := v = .int .i64 0
abbrev GStr (v : Value) : Prop := v = .string ⟨#[]⟩
abbrev VStrR (l : List UInt8) (v : Value) (_ : World) : Prop := v = .string (bsL l)
/-- a word -/
def wordM (en : Int) (ts : List Tok) : Res (List UInt8) := if kindT ts 0 then .ok ((headT ts).text, ts.tail) else bad en ts 2
abbrev VIntR (n : Int) (v : Value) (_ : World) : Prop := v = .int .i64 n
set_option maxHeartbeats 2000000 in
set_option maxRecDepth 100000 in
theorem rnumber_good {w : World} {g : Nat} {A : Option Addr} {c : Nat} {N : Int} {toks : List Tok} {i : Nat} (lo hi : Int) (h : RP w g A c N toks i 0 0) : Calls Tryz.prog 145 #[.pointer (some ⟨g, 0, none⟩), .int .i64 lo, .int .i64 hi] w (RetR g A c N toks w (numberM N lo hi (toks.drop i)) VIntR GInt) := by
 have H := Box.mk h
 have hle := h.le
 have hsm := h.sm
 clear h
 go_enter Tryz.func145, Tryz.ntmps145
 go_wp2_with fail
 refine (rkind_any H.out).mono ?_
 rintro e' w1 ⟨rfl, m, rfl⟩
 have H1 := Box.mk (H.out.drewN m)
 have HO : Box (Only g w (w.drewN m)) := ⟨Only.of_below (below_drewN _ _)⟩
 generalize w.drewN m = W at H1 HO ⊢
 have HKT : Box (kindT (toks.drop i) 1 = decide (kindZ (toks.drop i) = 1)) := ⟨by
  cases hd : toks.drop i with
  | nil => rfl
  | cons t r => show (t.kind == 1) = decide (t.kind = 1); rw [Bool.eq_iff_iff, beq_iff_eq, decide_eq_true_eq]⟩
 by_cases h1 : kindZ (toks.drop i) = 1
 ·have h12 : (kindZ (toks.drop i) != 1) = false := by simp [h1]
  obtain ⟨t, r, hd⟩ : ∃ t r, toks.drop i = t :: r := by
   cases hd : toks.drop i with
   | nil => rw [hd] at h1; exact absurd h1 (by decide)
   | cons t r => exact ⟨t, r, rfl⟩
  have HM : Box (numberM N lo hi (toks.drop i) = if t.n < lo ∨ hi < t.n then bad N (toks.drop i) 5 else .ok (t.n, (toks.drop i).tail)) := ⟨by unfold numberM; rw [HKT.out, decide_eq_true h1, if_pos rfl, hd]; rfl⟩
  obtain ⟨ht, -, hlt⟩ := drop_cons hd
  have HTT := Box.mk ht
  obtain ⟨b, off, rfl, hb, hne, -, -, k0, k1, k2, k3⟩ := H1.out.tok ht
  obtain ⟨c0, c1, c2, c3, c4⟩ := H1.out.mem.c5
  have hlt2 : (i : Int) < (toks.length : Int) := by omega
  have hi0 : (0 : Int) ≤ (i : Int) := by omega
  generalize kindZ (toks.drop i) = kz at *
  clear h1 hd ht k0 k1 k3
  go_upto_region 3 with (fail)
  go_cut [39] (fun v wx => v = .bool (decide (t.n < lo ∨ hi < t.n)) ∧ ∃ m, wx = W.drewN m)
  case first =>
   by_cases hlo : t.n < lo
   ·have HZ : Box (decide (t.n < lo ∨ hi < t.n) = true) := ⟨decide_eq_true (.inl hlo)⟩
    go_quiet (fail)
    go_wp2_with fail
    go_meet
    exact ⟨by rw [HZ.out], _, rfl⟩
   ·have hlo2 : decide (t.n < lo) = false := decide_eq_false hlo
    by_cases hhi : hi < t.n
    ·have HZ : Box (decide (t.n < lo ∨ hi < t.n) = true) := ⟨decide_eq_true (.inr hhi)⟩
     go_quiet (fail)
     go_wp2_with fail
     go_meet
     exact ⟨by rw [HZ.out], _, rfl⟩
    ·have HZ : Box (decide (t.n < lo ∨ hi < t.n) = false) := ⟨decide_eq_false (by omega)⟩
     go_quiet (fail)
     go_wp2_with fail
     go_meet
     exact ⟨by rw [HZ.out], _, rfl⟩
  case rest =>
   obtain ⟨rfl, m2, rfl⟩ := hcut
   rename World => W
   have H3 := Box.mk (H1.out.drewN m2)
   have HO3 : Box (Only g w (W.drewN m2)) := ⟨HO.out.trans (Only.of_below (below_drewN _ _))⟩
   clear H1 HO c0 c1 c2 c3 c4 k2
   have HO := HO3
   clear HO3
   generalize W.drewN m2 = W3 at H3 HO ⊢
   by_cases hr : t.n < lo ∨ hi < t.n
   ·rw [decide_eq_true hr]
    have HR : Box (numberM N lo hi (toks.drop i) = .error (failAt (toks.drop i) N, 5)) := ⟨by rw [HM.out, if_pos hr]; rfl⟩
    clear hr
    go_wp2_with fail
    refine (rfail_good 5 H3.out).mono ?_
    rintro e' w2 ⟨rfl, ho, hp⟩
    have H2 := Box.mk hp
    have HO2 := Box.mk (HO.out.trans ho)
    clear ho hp
    obtain ⟨d0, d1, d2, d3, d4⟩ := H2.out.mem.c5
    go_wp2_with fail
    go_ret
    exact RetR.er HR.out (by omega) HO2.out H2.out rfl
   ·rw [decide_eq_false hr]
    have HR : Box (numberM N lo hi (toks.drop i) = .ok (t.n, (toks.drop i).tail)) := ⟨by rw [HM.out, if_neg hr]⟩
    clear hr
    obtain ⟨d0, d1, d2, d3, d4⟩ := H3.out.mem.c5
    have df := H3.out.mem.frozen
    have H4 : Box (Only g w (W3.setCell ⟨g, 1, none⟩ (.int .i64 ((i : Int) + 1))) ∧ RP (W3.setCell ⟨g, 1, none⟩ (.int .i64 ((i : Int) + 1))) g (some ⟨b, off, none⟩) c N toks (i + 1) 0 0) := by
     have ho : Only g W3 (W3.setCell ⟨g, 1, none⟩ (.int .i64 ((i : Int) + 1))) := Only.setCell 1 _
     exact ⟨HO.out.trans ho, H3.out.put ho (by simpa using H3.out.mem.set 1 (.int .i64 ((i : Int) + 1))) hlt⟩
    go_upto_region 8 with (fail)
    clear d0 d1 d2 d3 d4 df
    generalize W3.setCell ⟨g, 1, none⟩ (.int .i64 ((i : Int) + 1)) = W4 at H4 ⊢
    obtain ⟨d0, d1, d2, d3, d4⟩ := H4.out.2.mem.c5
    have d1' : W4.cell? ⟨g, 1, none⟩ = some (.int .i64 ((i : Int) + 1)) := by simpa using d1
    have t1 : IntKind.i64.wrap ((i : Int) + 1 - 1) = (i : Int) := by rw [show (i : Int) + 1 - 1 = (i : Int) by omega]; exact IntWalk.i64_in _ (by omega)
    obtain ⟨b', off', hbb, hb', hne', -, -, k0, k1, k2, k3⟩ := H4.out.2.tok HTT.out
    cases hbb
    clear d1 k0 k1 k3
    go_quiet (fail)
    go_wp2_with fail
    go_ret
    exact RetR.ok HR.out (H4.out.1.trans (Only.of_below (below_drewN _ _))) (by rw [List.tail_drop]) (H4.out.2.drewN _) rfl
 ·have h12 : (kindZ (toks.drop i) != 1) = true := by simp [h1]
  have HR : Box (numberM N lo hi (toks.drop i) = .error (failAt (toks.drop i) N, 2)) := ⟨by unfold numberM; rw [HKT.out, decide_eq_false h1]; rfl⟩
  generalize kindZ (toks.drop i) = kz at *
  clear h1
  go_wp2_with fail
  refine (rfail_good 2 H1.out).mono ?_
  rintro e' w2 ⟨rfl, ho, hp⟩
  have H2 := Box.mk hp
  have HO2 := Box.mk (HO.out.trans ho)
  clear ho hp
  obtain ⟨d0, d1, d2, d3, d4⟩ := H2.out.mem.c5
  go_wp2_with fail
  go_ret
  exact RetR.er HR.out (by omega) HO2.out H2.out rfl
set_option maxHeartbeats 2000000 in
set_option maxRecDepth 100000 in
theorem rnumber_bad {w : World} {g : Nat} {A : Option Addr} {c : Nat} {N : Int} {toks : List Tok} {i : Nat} {a e : Int} (lo hi : Int) (he : e ≠ 0) (h : RP w g A c N toks i a e) : Calls Tryz.prog 145 #[.pointer (some ⟨g, 0, none⟩), .int .i64 lo, .int .i64 hi] w (RetE g A c N toks w i (a, e) GInt) := by
 have H := Box.mk h
 have hle := h.le
 have hsm := h.sm
 have HE := Box.mk he
 have he2 : (e != 0) = true := by simp [he]
 clear h he
 go_enter Tryz.func145, Tryz.ntmps145
 go_wp2_with fail
 refine (rkind_any H.out).mono ?_
 rintro e' w1 ⟨rfl, m, rfl⟩
 have H1 := Box.mk (H.out.drewN m)
 have HO : Box (Only g w (w.drewN m)) := ⟨Only.of_below (below_drewN _ _)⟩
 generalize w.drewN m = W at H1 HO ⊢
 have HKT : Box (kindT (toks.drop i) 1 = decide (kindZ (toks.drop i) = 1)) := ⟨by
  cases hd : toks.drop i with
  | nil => rfl
  | cons t r => show (t.kind == 1) = decide (t.kind = 1); rw [Bool.eq_iff_iff, beq_iff_eq, decide_eq_true_eq]⟩
 by_cases h1 : kindZ (toks.drop i) = 1
 ·have h12 : (kindZ (toks.drop i) != 1) = false := by simp [h1]
  obtain ⟨t, r, hd⟩ : ∃ t r, toks.drop i = t :: r := by
   cases hd : toks.drop i with
   | nil => rw [hd] at h1; exact absurd h1 (by decide)
   | cons t r => exact ⟨t, r, rfl⟩
  have HM : Box (numberM N lo hi (toks.drop i) = if t.n < lo ∨ hi < t.n then bad N (toks.drop i) 5 else .ok (t.n, (toks.drop i).tail)) := ⟨by unfold numberM; rw [HKT.out, decide_eq_true h1, if_pos rfl, hd]; rfl⟩
  obtain ⟨ht, -, hlt⟩ := drop_cons hd
  have HTT := Box.mk ht
  obtain ⟨b, off, rfl, hb, hne, -, -, k0, k1, k2, k3⟩ := H1.out.tok ht
  obtain ⟨c0, c1, c2, c3, c4⟩ := H1.out.mem.c5
  have hlt2 : (i : Int) < (toks.length : Int) := by omega
  have hi0 : (0 : Int) ≤ (i : Int) := by omega
  generalize kindZ (toks.drop i) = kz at *
  clear h1 hd ht k0 k1 k3
  go_upto_region 3 with (fail)
  go_cut [39] (fun v wx => v = .bool (decide (t.n < lo ∨ hi < t.n)) ∧ ∃ m, wx = W.drewN m)
  case first =>
   by_cases hlo : t.n < lo
   ·have HZ : Box (decide (t.n < lo ∨ hi < t.n) = true) := ⟨decide_eq_true (.inl hlo)⟩
    go_quiet (fail)
    go_wp2_with fail
    go_meet
    exact ⟨by rw [HZ.out], _, rfl⟩
   ·have hlo2 : decide (t.n < lo) = false := decide_eq_false hlo
    by_cases hhi : hi < t.n
    ·have HZ : Box (decide (t.n < lo ∨ hi < t.n) = true) := ⟨decide_eq_true (.inr hhi)⟩
     go_quiet (fail)
     go_wp2_with fail
     go_meet
     exact ⟨by rw [HZ.out], _, rfl⟩
    ·have HZ : Box (decide (t.n < lo ∨ hi < t.n) = false) := ⟨decide_eq_false (by omega)⟩
     go_quiet (fail)
     go_wp2_with fail
     go_meet
     exact ⟨by rw [HZ.out], _, rfl⟩
  case rest =>
   obtain ⟨rfl, m2, rfl⟩ := hcut
   rename World => W
   have H3 := Box.mk (H1.out.drewN m2)
   have HO3 : Box (Only g w (W.drewN m2)) := ⟨HO.out.trans (Only.of_below (below_drewN _ _))⟩
   clear H1 HO c0 c1 c2 c3 c4 k2
   have HO := HO3
   clear HO3
   generalize W.drewN m2 = W3 at H3 HO ⊢
   by_cases hr : t.n < lo ∨ hi < t.n
   ·rw [decide_eq_true hr]
    skip
    clear hr
    go_wp2_with fail
    refine (rfail_bad 5 HE.out H3.out).mono ?_
    rintro e' w2 ⟨rfl, rfl⟩
    obtain ⟨d0, d1, d2, d3, d4⟩ := H3.out.mem.c5
    go_wp2_with fail
    go_ret
    exact ⟨HO.out, _, rfl, H3.out, rfl⟩
   ·rw [decide_eq_false hr]
    obtain ⟨d0, d1, d2, d3, d4⟩ := H3.out.mem.c5
    go_wp2_with fail
    go_ret
    exact ⟨HO.out, _, rfl, H3.out, rfl⟩
 ·have h12 : (kindZ (toks.drop i) != 1) = true := by simp [h1]
  skip
  generalize kindZ (toks.drop i) = kz at *
  clear h1
  go_wp2_with fail
  refine (rfail_bad 2 HE.out H1.out).mono ?_
  rintro e' w2 ⟨rfl, rfl⟩
  obtain ⟨d0, d1, d2, d3, d4⟩ := H1.out.mem.c5
  go_wp2_with fail
  go_ret
  exact ⟨HO.out, _, rfl, H1.out, rfl⟩
set_option maxHeartbeats 2000000 in
set_option maxRecDepth 100000 in
theorem rword_good {w : World} {g : Nat} {A : Option Addr} {c : Nat} {N : Int} {toks : List Tok} {i : Nat} (h : RP w g A c N toks i 0 0) : Calls Tryz.prog 158 #[.pointer (some ⟨g, 0, none⟩)] w (RetR g A c N toks w (wordM N (toks.drop i)) VStrR GStr) := by
 have H := Box.mk h
 have hle := h.le
 have hsm := h.sm
 clear h
 go_enter Tryz.func158, Tryz.ntmps158
 go_wp2_with fail
 refine (rkind_any H.out).mono ?_
 rintro e' w1 ⟨rfl, m, rfl⟩
 have H1 := Box.mk (H.out.drewN m)
 have HO : Box (Only g w (w.drewN m)) := ⟨Only.of_below (below_drewN _ _)⟩
 generalize w.drewN m = W at H1 HO ⊢
 have HKT : Box (kindT (toks.drop i) 0 = decide (kindZ (toks.drop i) = 0)) := ⟨by
  cases hd : toks.drop i with
  | nil => rfl
  | cons t r => show (t.kind == 0) = decide (t.kind = 0); rw [Bool.eq_iff_iff, beq_iff_eq, decide_eq_true_eq]⟩
 by_cases h1 : kindZ (toks.drop i) = 0
 ·have h12 : (kindZ (toks.drop i) != 0) = false := by simp [h1]
  obtain ⟨t, r, hd⟩ : ∃ t r, toks.drop i = t :: r := by
   cases hd : toks.drop i with
   | nil => rw [hd] at h1; exact absurd h1 (by decide)
   | cons t r => exact ⟨t, r, rfl⟩
  have HR : Box (wordM N (toks.drop i) = .ok (t.text, (toks.drop i).tail)) := ⟨by unfold wordM; rw [HKT.out, decide_eq_true h1, if_pos rfl, hd]; rfl⟩
  obtain ⟨ht, -, hlt⟩ := drop_cons hd
  have HTT := Box.mk ht
  obtain ⟨c0, c1, c2, c3, c4⟩ := H1.out.mem.c5
  have cf := H1.out.mem.frozen
  have hlt2 : (i : Int) < (toks.length : Int) := by omega
  have hi0 : (0 : Int) ≤ (i : Int) := by omega
  generalize kindZ (toks.drop i) = kz at *
  clear h1 hd ht
  have H4 : Box (Only g w (W.setCell ⟨g, 1, none⟩ (.int .i64 ((i : Int) + 1))) ∧ RP (W.setCell ⟨g, 1, none⟩ (.int .i64 ((i : Int) + 1))) g A c N toks (i + 1) 0 0) := by
   have ho : Only g W (W.setCell ⟨g, 1, none⟩ (.int .i64 ((i : Int) + 1))) := Only.setCell 1 _
   exact ⟨HO.out.trans ho, H1.out.put ho (by simpa using H1.out.mem.set 1 (.int .i64 ((i : Int) + 1))) hlt⟩
  go_upto_region 6 with (fail)
  clear c0 c1 c2 c3 c4 cf
  generalize W.setCell ⟨g, 1, none⟩ (.int .i64 ((i : Int) + 1)) = W4 at H4 ⊢
  obtain ⟨b, off, rfl, hb', hne', -, -, k0, k1, k2, k3⟩ := H4.out.2.tok HTT.out
  obtain ⟨d0, d1, d2, d3, d4⟩ := H4.out.2.mem.c5
  have d1' : W4.cell? ⟨g, 1, none⟩ = some (.int .i64 ((i : Int) + 1)) := by simpa using d1
  have t1 : IntKind.i64.wrap ((i : Int) + 1 - 1) = (i : Int) := by rw [show (i : Int) + 1 - 1 = (i : Int) by omega]; exact IntWalk.i64_in _ (by omega)
  clear d1 k0 k2 k3
  go_quiet (fail)
  go_wp2_with fail
  go_ret
  exact RetR.ok HR.out (H4.out.1.trans (Only.of_below (below_drewN _ _))) (by rw [List.tail_drop]) (H4.out.2.drewN _) rfl
 ·have h12 : (kindZ (toks.drop i) != 0) = true := by simp [h1]
  have HR : Box (wordM N (toks.drop i) = .error (failAt (toks.drop i) N, 2)) := ⟨by unfold wordM; rw [HKT.out, decide_eq_false h1]; rfl⟩
  generalize kindZ (toks.drop i) = kz at *
  clear h1
  go_wp2_with fail
  refine (rfail_good 2 H1.out).mono ?_
  rintro e' w2 ⟨rfl, ho, hp⟩
  have H2 := Box.mk hp
  have HO2 := Box.mk (HO.out.trans ho)
  clear ho hp
  obtain ⟨d0, d1, d2, d3, d4⟩ := H2.out.mem.c5
  go_wp2_with fail
  go_ret
  exact RetR.er HR.out (by omega) HO2.out H2.out rfl
set_option maxHeartbeats 2000000 in
set_option maxRecDepth 100000 in
theorem rword_bad {w : World} {g : Nat} {A : Option Addr} {c : Nat} {N : Int} {toks : List Tok} {i : Nat} {a e : Int} (he : e ≠ 0) (h : RP w g A c N toks i a e) : Calls Tryz.prog 158 #[.pointer (some ⟨g, 0, none⟩)] w (RetE g A c N toks w i (a, e) GStr) := by
 have H := Box.mk h
 have hle := h.le
 have hsm := h.sm
 have HE := Box.mk he
 have he2 : (e != 0) = true := by simp [he]
 clear h he
 go_enter Tryz.func158, Tryz.ntmps158
 go_wp2_with fail
 refine (rkind_any H.out).mono ?_
 rintro e' w1 ⟨rfl, m, rfl⟩
 have H1 := Box.mk (H.out.drewN m)
 have HO : Box (Only g w (w.drewN m)) := ⟨Only.of_below (below_drewN _ _)⟩
 generalize w.drewN m = W at H1 HO ⊢
 have HKT : Box (kindT (toks.drop i) 0 = decide (kindZ (toks.drop i) = 0)) := ⟨by
  cases hd : toks.drop i with
  | nil => rfl
  | cons t r => show (t.kind == 0) = decide (t.kind = 0); rw [Bool.eq_iff_iff, beq_iff_eq, decide_eq_true_eq]⟩
 by_cases h1 : kindZ (toks.drop i) = 0
 ·have h12 : (kindZ (toks.drop i) != 0) = false := by simp [h1]
  obtain ⟨t, r, hd⟩ : ∃ t r, toks.drop i = t :: r := by
   cases hd : toks.drop i with
   | nil => rw [hd] at h1; exact absurd h1 (by decide)
   | cons t r => exact ⟨t, r, rfl⟩
  skip
  obtain ⟨ht, -, hlt⟩ := drop_cons hd
  have HTT := Box.mk ht
  obtain ⟨c0, c1, c2, c3, c4⟩ := H1.out.mem.c5
  have cf := H1.out.mem.frozen
  have hlt2 : (i : Int) < (toks.length : Int) := by omega
  have hi0 : (0 : Int) ≤ (i : Int) := by omega
  generalize kindZ (toks.drop i) = kz at *
  clear h1 hd ht
  go_wp2_with fail
  go_ret
  exact ⟨HO.out, _, rfl, H1.out, rfl⟩
 ·have h12 : (kindZ (toks.drop i) != 0) = true := by simp [h1]
  skip
  generalize kindZ (toks.drop i) = kz at *
  clear h1
  go_wp2_with fail
  refine (rfail_bad 2 HE.out H1.out).mono ?_
  rintro e' w2 ⟨rfl, rfl⟩
  obtain ⟨d0, d1, d2, d3, d4⟩ := H1.out.mem.c5
  go_wp2_with fail
  go_ret
  exact ⟨HO.out, _, rfl, H1.out, rfl⟩
end
end Go.Proofs.YthoibeajhdhdhaaGreatDoor
