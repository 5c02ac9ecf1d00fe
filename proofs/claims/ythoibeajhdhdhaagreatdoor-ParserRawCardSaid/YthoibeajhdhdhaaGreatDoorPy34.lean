/- Contracts, packed: Og. -/
import Derived.Test.YthoibeajhdhdhaaGreatDoorPy33
set_option linter.unusedVariables false
set_option linter.unusedSimpArgs false
namespace Go.Proofs.YthoibeajhdhdhaaGreatDoor
section
open Go.RowKit FracM
/-- what is left, or the first error -/
abbrev StP := Except (Int × Int) (List Tok)
def RX (w : World) (g : Nat) (A : Option Addr) (c : Nat) (N : Int) (toks : List Tok) (s : StP) : Prop := match s with
 | .ok ts => ∃ i, toks.drop i = ts ∧ RP w g A c N toks i 0 0
 | .error f => f.2 ≠ 0 ∧ ∃ i, RP w g A c N toks i f.1 f.2
def bindS {α : Type} (s : StP) (f : List Tok → Res α) : Res α := match s with | .error e => .error e | .ok ts => f ts
def sOf {α : Type} (r : Res α) : StP := match r with | .error e => .error e | .ok (_, ts) => .ok ts
def failS (s : StP) (N er : Int) : StP := match s with | .ok ts => .error (failAt ts N, er) | .error f => .error f
def tailS (s : StP) : StP := match s with | .ok ts => .ok ts.tail | .error f => .error f
def errS (s : StP) : Int := match s with | .ok _ => 0 | .error f => f.2
def RetU {α : Type} (g : Nat) (A : Option Addr) (c : Nat) (N : Int) (toks : List Tok) (w : World) (r : Res α) (V : α → Value → World → Prop) (G : Value → Prop) (e : Ending) (w' : World) : Prop :=
 Only g w w' ∧ RX w' g A c N toks (sOf r) ∧ ∃ v, e = .returned v ∧ match r with
 | .ok (a, _) => V a v w'
 | .error _ => G v
theorem RetR.u {α : Type} {g : Nat} {A : Option Addr} {c : Nat} {N : Int} {toks : List Tok} {w w' : World} {r : Res α} {V : α → Value → World → Prop} {G : Value → Prop} {e : Ending} (h : RetR g A c N toks w r V G e w') : RetU g A c N toks w r V G e w' := by
 obtain ⟨ho, v, rfl, h⟩ := h
 match r, h with
 | .ok (a, us), h => exact ⟨ho, h.1, v, rfl, h.2⟩
 | .error f, h => exact ⟨ho, ⟨h.1, h.2.1⟩, v, rfl, h.2.2⟩
theorem RetE.u {α : Type} {g : Nat} {A : Option Addr} {c : Nat} {N : Int} {toks : List Tok} {w w' : World} {i : Nat} {f : Int × Int} {V : α → Value → World → Prop} {G : Value → Prop} {e : Ending} (hf : f.2 ≠ 0) (h : RetE g A c N toks w i f G e w') : RetU g A c N toks w (.error f : Res α) V G e w' := by
 obtain ⟨ho, v, rfl, hp, hg⟩ := h
 exact ⟨ho, ⟨hf, i, hp⟩, v, rfl, hg⟩
theorem RX.keep {w w' : World} {g : Nat} {A : Option Addr} {c : Nat} {N : Int} {toks : List Tok} {s : StP} (h : RX w g A c N toks s) (k : ∀ i a e, RP w g A c N toks i a e → RP w' g A c N toks i a e) : RX w' g A c N toks s := by
 match s, h with
 | .ok ts, ⟨i, hi, hp⟩ => exact ⟨i, hi, k _ _ _ hp⟩
 | .error f, ⟨hf, i, hp⟩ => exact ⟨hf, i, k _ _ _ hp⟩
theorem RX.rp {w : World} {g : Nat} {A : Option Addr} {c : Nat} {N : Int} {toks : List Tok} {s : StP} (h : RX w g A c N toks s) : ∃ i a, RP w g A c N toks i a (errS s) ∧ (∀ ts, s = .ok ts → toks.drop i = ts ∧ a = 0) ∧ (∀ f, s = .error f → a = f.1) := by
 match s, h with
 | .ok ts, ⟨i, hi, hp⟩ => exact ⟨i, 0, hp, fun ts' h => (by cases h; exact ⟨hi, rfl⟩), fun f h => (by cases h)⟩
 | .error f, ⟨hf, i, hp⟩ => exact ⟨i, f.1, hp, fun ts' h => (by cases h), fun f' h => (by cases h; rfl)⟩
theorem RX.drewN {w : World} {g : Nat} {A : Option Addr} {c : Nat} {N : Int} {toks : List Tok} {s : StP} (h : RX w g A c N toks s) (n : Nat) : RX (w.drewN n) g A c N toks s := h.keep fun _ _ _ hp => hp.drewN n
theorem RX.below {w' : World} {w : World} {g : Nat} {A : Option Addr} {c : Nat} {N : Int} {toks : List Tok} {s : StP} (h : RX w g A c N toks s) (hb : Below w.heap.size w w') : RX w' g A c N toks s := h.keep fun _ _ _ hp => hp.below hb
theorem RX.far {w' : World} {B : Nat} {w : World} {g : Nat} {A : Option Addr} {c : Nat} {N : Int} {toks : List Tok} {s : StP} (h : RX w g A c N toks s) (hb : Below B w w') (hg : g < B) : RX w' g A c N toks s := h.keep fun _ _ _ hp => hp.far hb hg
theorem RX.lt {w : World} {g : Nat} {A : Option Addr} {c : Nat} {N : Int} {toks : List Tok} {s : StP} (h : RX w g A c N toks s) : g < w.heap.size := by obtain ⟨i, a, hp, _⟩ := h.rp; exact hp.mem.lt
theorem RX.err {w : World} {g : Nat} {A : Option Addr} {c : Nat} {N : Int} {toks : List Tok} {s : StP} (h : RX w g A c N toks s) : w.cell? ⟨g, 4, none⟩ = some (.int .i64 (errS s)) := by obtain ⟨i, a, hp, _⟩ := h.rp; exact hp.mem.c5.2.2.2.2
theorem RX.bad {w : World} {g : Nat} {A : Option Addr} {c : Nat} {N : Int} {toks : List Tok} {s : StP} {f : Int × Int} (h : RX w g A c N toks s) (hs : s = .error f) : f.2 ≠ 0 := by subst hs; exact h.1
theorem RX.wfd {w : World} {g : Nat} {A : Option Addr} {c : Nat} {N : Int} {toks : List Tok} {s : StP} {ts : List Tok} (h : RX w g A c N toks s) (hs : s = .ok ts) : (∀ t ∈ ts, TokWf t) ∧ ∀ t ∈ ts, TokOk t := by
 subst hs
 obtain ⟨i, rfl, hp⟩ := h
 exact ⟨hp.wfd i, fun t ht => hp.ok t (List.mem_of_mem_drop ht)⟩
theorem rword_u {w : World} {g : Nat} {A : Option Addr} {c : Nat} {N : Int} {toks : List Tok} {s : StP} (h : RX w g A c N toks s) : Calls Tryz.prog 158 #[.pointer (some ⟨g, 0, none⟩)] w (RetU g A c N toks w (bindS s (wordM N)) VStrR GStr) := by
 match s, h with
 | .ok ts, ⟨i, hi, hp⟩ => subst hi; exact (rword_good hp).mono fun _ _ h => h.u
 | .error f, ⟨hf, i, hp⟩ => exact (rword_bad hf hp).mono fun _ _ h => h.u hf
theorem rnumber_u {w : World} {g : Nat} {A : Option Addr} {c : Nat} {N : Int} {toks : List Tok} {s : StP} (lo hi : Int) (h : RX w g A c N toks s) : Calls Tryz.prog 145 #[.pointer (some ⟨g, 0, none⟩), .int .i64 lo, .int .i64 hi] w (RetU g A c N toks w (bindS s (numberM N lo hi)) VIntR GInt) := by
 match s, h with
 | .ok ts, ⟨i, hi', hp⟩ => subst hi'; exact (rnumber_good lo hi hp).mono fun _ _ h => h.u
 | .error f, ⟨hf, i, hp⟩ => exact (rnumber_bad lo hi hf hp).mono fun _ _ h => h.u hf
theorem rexpect_u {w : World} {g : Nat} {A : Option Addr} {c : Nat} {N : Int} {toks : List Tok} {s : StP} (x : List UInt8) (u : ByteArray) (hu : u = bsL x) (hx : SymX x) (h : RX w g A c N toks s) : Calls Tryz.prog 146 #[.pointer (some ⟨g, 0, none⟩), .string u] w (RetU g A c N toks w (bindS s (symbolM N x)) VNoneR GNone) := by
 match s, h with
 | .ok ts, ⟨i, hi, hp⟩ => subst hi; exact (rexpect_good x u hu hx hp).mono fun _ _ h => h.u
 | .error f, ⟨hf, i, hp⟩ => exact (rexpect_bad u hf hp).mono fun _ _ h => h.u hf
theorem rkind_u {w : World} {g : Nat} {A : Option Addr} {c : Nat} {N : Int} {toks : List Tok} {s : StP} (h : RX w g A c N toks s) : Calls Tryz.prog 130 #[.pointer (some ⟨g, 0, none⟩)] w fun e' w' => ∃ z, e' = .returned (.int .i64 z) ∧ (∀ ts, s = .ok ts → z = kindZ ts) ∧ ∃ m, w' = w.drewN m := by
 obtain ⟨i, a, hp, h1, _⟩ := h.rp
 exact (rkind_any hp).mono fun _ _ ⟨h2, h3⟩ => ⟨_, h2, fun ts hs => by rw [(h1 ts hs).1], h3⟩
theorem ris_u {w : World} {g : Nat} {A : Option Addr} {c : Nat} {N : Int} {toks : List Tok} {s : StP} (x : List UInt8) (u : ByteArray) (hu : u = bsL x) (h : RX w g A c N toks s) : Calls Tryz.prog 105 #[.pointer (some ⟨g, 0, none⟩), .string u] w fun e' w' => ∃ b, e' = .returned (.bool b) ∧ (∀ ts, s = .ok ts → b = isX ts x) ∧ ∃ m, w' = w.drewN m := by
 obtain ⟨i, a, hp, h1, _⟩ := h.rp
 exact (ris_any x u hu hp).mono fun _ _ ⟨h2, h3⟩ => ⟨_, h2, fun ts hs => by rw [(h1 ts hs).1], h3⟩
theorem ris_s {w : World} {g : Nat} {A : Option Addr} {c : Nat} {N : Int} {toks : List Tok} {s : StP} (x : List UInt8) (u : ByteArray) (hu : u = bsL x) (hx : SymX x) (h : RX w g A c N toks s) : Calls Tryz.prog 105 #[.pointer (some ⟨g, 0, none⟩), .string u] w fun e' w' => ∃ b, e' = .returned (.bool b) ∧ (∀ ts, s = .ok ts → b = isT ts 3 x) ∧ ∃ m, w' = w.drewN m := by
 have H := h
 exact (ris_u x u hu h).mono fun _ _ ⟨b, h1, h2, h3⟩ => ⟨b, h1, fun ts hs => by rw [h2 ts hs, isX_sym (H.wfd hs).1 hx], h3⟩
theorem ris_by {w : World} {g : Nat} {A : Option Addr} {c : Nat} {N : Int} {toks : List Tok} {s : StP} (u : ByteArray) (hu : u = bsL sBy) (h : RX w g A c N toks s) : Calls Tryz.prog 105 #[.pointer (some ⟨g, 0, none⟩), .string u] w fun e' w' => ∃ b, e' = .returned (.bool b) ∧ (∀ ts, s = .ok ts → b = isT ts 0 sBy) ∧ ∃ m, w' = w.drewN m := by
 have H := h
 exact (ris_u sBy u hu h).mono fun _ _ ⟨b, h1, h2, h3⟩ => ⟨b, h1, fun ts hs => by rw [h2 ts hs, isX_by (H.wfd hs).1], h3⟩
theorem rfail_u {w : World} {g : Nat} {A : Option Addr} {c : Nat} {N : Int} {toks : List Tok} {s : StP} (er : Int) (he : er ≠ 0) (h : RX w g A c N toks s) : Calls Tryz.prog 69 #[.pointer (some ⟨g, 0, none⟩), .int .i64 er] w fun e' w' => e' = .returned (.tuple #[]) ∧ Only g w w' ∧ RX w' g A c N toks (failS s N er) := by
 match s, h with
 | .ok ts, ⟨i, hi, hp⟩ => subst hi; exact (rfail_good er hp).mono fun _ _ ⟨h1, h2, h3⟩ => ⟨h1, h2, he, i, h3⟩
 | .error f, ⟨hf, i, hp⟩ => exact (rfail_bad er hf hp).mono fun _ _ ⟨h1, h2⟩ => by subst h2; exact ⟨h1, (Only.of_below (Below.refl _ _)), hf, i, hp⟩
theorem rtake_u {w : World} {g : Nat} {A : Option Addr} {c : Nat} {N : Int} {toks : List Tok} {s : StP} (hs : ∀ ts, s = .ok ts → ts ≠ []) (h : RX w g A c N toks s) : Calls Tryz.prog 106 #[.pointer (some ⟨g, 0, none⟩)] w fun e' w' => e' = .returned (.tuple #[]) ∧ Only g w w' ∧ RX w' g A c N toks (tailS s) := by
 match s, h with
 | .ok ts, ⟨i, hi, hp⟩ =>
  have hlt : i < toks.length := by
   rcases Nat.lt_or_ge i toks.length with h' | h'
   ·exact h'
   ·exact absurd (by rw [← hi, List.drop_eq_nil_of_le h']) (hs ts rfl)
  subst hi
  exact (rtake_good hp hlt).mono fun _ _ ⟨h1, h2, h3⟩ => ⟨h1, h2, i + 1, (List.tail_drop).symm, h3⟩
 | .error f, ⟨hf, i, hp⟩ => exact (rtake_bad hf hp).mono fun _ _ ⟨h1, h2⟩ => by subst h2; exact ⟨h1, (Only.of_below (Below.refl _ _)), hf, i, hp⟩
def strR (r : Res (List UInt8)) : ByteArray := match r with | .ok (x, _) => bsL x | .error _ => ⟨#[]⟩
def intR (r : Res Int) : Int := match r with | .ok (x, _) => x | .error _ => 0
theorem rword_v {w : World} {g : Nat} {A : Option Addr} {c : Nat} {N : Int} {toks : List Tok} {s : StP} (h : RX w g A c N toks s) : Calls Tryz.prog 158 #[.pointer (some ⟨g, 0, none⟩)] w fun e' w' => e' = .returned (.string (strR (bindS s (wordM N)))) ∧ Only g w w' ∧ RX w' g A c N toks (sOf (bindS s (wordM N))) := by
 refine (rword_u h).mono fun e' w' ⟨ho, hp, v, he, hv⟩ => ⟨?_, ho, hp⟩
 subst he
 generalize bindS s (wordM N) = r at hv
 match r, hv with
 | .ok (a, _), hv => rw [show v = .string (bsL a) from hv]; rfl
 | .error _, hv => rw [show v = .string ⟨#[]⟩ from hv]; rfl
theorem rnumber_v {w : World} {g : Nat} {A : Option Addr} {c : Nat} {N : Int} {toks : List Tok} {s : StP} (lo hi : Int) (h : RX w g A c N toks s) : Calls Tryz.prog 145 #[.pointer (some ⟨g, 0, none⟩), .int .i64 lo, .int .i64 hi] w fun e' w' => e' = .returned (.int .i64 (intR (bindS s (numberM N lo hi)))) ∧ Only g w w' ∧ RX w' g A c N toks (sOf (bindS s (numberM N lo hi))) := by
 refine (rnumber_u lo hi h).mono fun e' w' ⟨ho, hp, v, he, hv⟩ => ⟨?_, ho, hp⟩
 subst he
 generalize bindS s (numberM N lo hi) = r at hv
 match r, hv with
 | .ok (a, _), hv => rw [show v = .int .i64 a from hv]; rfl
 | .error _, hv => rw [show v = .int .i64 0 from hv]; rfl
theorem rexpect_v {w : World} {g : Nat} {A : Option Addr} {c : Nat} {N : Int} {toks : List Tok} {s : StP} (x : List UInt8) (u : ByteArray) (hu : u = bsL x) (hx : SymX x) (h : RX w g A c N toks s) : Calls Tryz.prog 146 #[.pointer (some ⟨g, 0, none⟩), .string u] w fun e' w' => e' = .returned (.tuple #[]) ∧ Only g w w' ∧ RX w' g A c N toks (sOf (bindS s (symbolM N x))) := by
 refine (rexpect_u x u hu hx h).mono fun e' w' ⟨ho, hp, v, he, hv⟩ => ⟨?_, ho, hp⟩
 subst he
 generalize bindS s (symbolM N x) = r at hv
 match r, hv with
 | .ok (a, _), hv => rw [show v = .tuple #[] from hv]
 | .error _, hv => rw [show v = .tuple #[] from hv]
/-- what is left -/
def leftX (g len : Nat) (W : World) : Nat := if errG g W = 0 then len - idxG g W + 1 else 0
def leftS (s : StP) : Nat := match s with | .ok ts => ts.length + 1 | .error _ => 0
theorem RX.left {w : World} {g : Nat} {A : Option Addr} {c : Nat} {N : Int} {toks : List Tok} {s : StP} (h : RX w g A c N toks s) : leftX g toks.length w = leftS s := by
 match s, h with
 | .ok ts, ⟨i, hi, hp⟩ => unfold leftX; rw [hp.idx.1, hp.idx.2, if_pos rfl]; show _ = ts.length + 1; rw [← hi, List.length_drop]
 | .error f, ⟨hf, i, hp⟩ => unfold leftX; rw [hp.idx.2, if_neg hf]; rfl
set_option maxHeartbeats 4000000 in
set_option maxRecDepth 100000 in
/-- by, behind an error -/
theorem rby_bad {w : World} {g : Nat} {A : Option Addr} {c : Nat} {N : Int} {toks : List Tok} {i : Nat} {a e : Int} (he : e ≠ 0) (h : RP w g A c N toks i a e) : Calls Tryz.prog 159 #[.pointer (some ⟨g, 0, none⟩)] w (RetE g A c N toks w i (a, e) GSl) := by
 have H := Box.mk h
 have HE := Box.mk he
 clear h he
 go_enter Tryz.func159, Tryz.ntmps159
 go_wp2_with fail
 refine (rtake_bad HE.out H.out).mono ?_
 rintro e1 w1 ⟨rfl, hw1⟩
 subst w1
 go_wp2_with fail
 refine (rexpect_bad ⟨#[40]⟩ HE.out H.out).mono ?_
 rintro e2 w2 ⟨ho2, v2, rfl, hp2, rfl⟩
 have H2 := Box.mk hp2
 have HO2 := Box.mk ho2
 clear ho2 hp2
 go_wp2_with fail
 go_loopw [3] (fun v wr => v = .slice none 0 0 ∧ Only g w wr ∧ RP wr g A c N toks i a e) (fun _ _ => 0)
 case atStart => exact ⟨rfl, HO2.out, H2.out⟩
 case round =>
  obtain ⟨rfl, ho3, hp3⟩ := hrel
  have H3 := Box.mk hp3
  have HO3 := Box.mk ho3
  obtain ⟨c0, c1, c2, c3, c4⟩ := hp3.mem.c5
  have he2 : (e == 0) = false := by have := HE.out; simp [this]
  clear ho3 hp3 c0 c1 c2 c3
  go_wp2_with fail
  refine (rexpect_bad ⟨#[41]⟩ HE.out H3.out).mono ?_
  rintro e4 w4 ⟨ho4, v4, rfl, hp4, rfl⟩
  have H4 := Box.mk hp4
  have HO4 := Box.mk (HO3.out.trans ho4)
  clear ho4 hp4 c4
  go_wp2_with fail
  go_ret
  exact ⟨HO4.out, _, rfl, H4.out, ⟨_, _, _, rfl⟩⟩
theorem rby_u {w : World} {g : Nat} {A : Option Addr} {c : Nat} {N : Int} {toks : List Tok} {s : StP} (hb : ∀ ts, s = .ok ts → isT ts 0 sBy = true) (h : RX w g A c N toks s) : Calls Tryz.prog 159 #[.pointer (some ⟨g, 0, none⟩)] w (RetU g A c N toks w (bindS s (gByM N)) (VBys w.heap.size) GSl) := by
 match s, h with
 | .ok ts, ⟨i, hi, hp⟩ => subst hi; exact (rby_good hp (hb _ rfl)).mono fun _ _ h => h.u
 | .error f, ⟨hf, i, hp⟩ => exact (rby_bad hf hp).mono fun _ _ h => h.u hf
end
end Go.Proofs.YthoibeajhdhdhaaGreatDoor
