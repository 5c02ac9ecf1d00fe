/- Contracts, packed: Oh. -/
import Derived.Test.YthoibeajhdhdhaaGreatDoorPy34
import Derived.Test.YthoibeajhdhdhaaGreatDoorPy35
set_option linter.unusedVariables false
set_option linter.unusedSimpArgs false
namespace Go.Proofs.YthoibeajhdhdhaaGreatDoor
section
open Go.RowKit FracM
theorem RetU.er {α : Type} {g : Nat} {A : Option Addr} {c : Nat} {N : Int} {toks : List Tok} {w w' : World} {r : Res α} {V : α → Value → World → Prop} {G : Value → Prop} {f : Int × Int} {v : Value} (hr : r = .error f) (ho : Only g w w') (hp : RX w' g A c N toks (.error f)) (hv : G v) : RetU g A c N toks w r V G (.returned v) w' := by
 subst hr; exact ⟨ho, hp, v, rfl, hv⟩
theorem RetU.ok {α : Type} {g : Nat} {A : Option Addr} {c : Nat} {N : Int} {toks : List Tok} {w w' : World} {r : Res α} {V : α → Value → World → Prop} {G : Value → Prop} {a : α} {us : List Tok} {v : Value} (hr : r = .ok (a, us)) (ho : Only g w w') (hp : RX w' g A c N toks (.ok us)) (hv : V a v w') : RetU g A c N toks w r V G (.returned v) w' := by
 subst hr; exact ⟨ho, hp, v, rfl, hv⟩
theorem RX.onlyk {w w' : World} {g k : Nat} {A : Option Addr} {c : Nat} {N : Int} {toks : List Tok} {s : StP} (h : RX w g A c N toks s) (ho : Only k w w') (hk : g < k) : RX w' g A c N toks s := h.keep fun _ _ _ hp => hp.only ho hk
theorem rkind_o {w : World} {g : Nat} {A : Option Addr} {c : Nat} {N : Int} {toks ts : List Tok} (h : RX w g A c N toks (.ok ts)) : Calls Tryz.prog 130 #[.pointer (some ⟨g, 0, none⟩)] w fun e' w' => e' = .returned (.int .i64 (kindZ ts)) ∧ ∃ m, w' = w.drewN m := by
 obtain ⟨i, rfl, hp⟩ := h
 exact rkind_any hp
theorem ris_o {w : World} {g : Nat} {A : Option Addr} {c : Nat} {N : Int} {toks ts : List Tok} (x : List UInt8) (u : ByteArray) (hu : u = bsL x) (hx : SymX x) (h : RX w g A c N toks (.ok ts)) : Calls Tryz.prog 105 #[.pointer (some ⟨g, 0, none⟩), .string u] w fun e' w' => e' = .returned (.bool (isT ts 3 x)) ∧ ∃ m, w' = w.drewN m :=
 (ris_s x u hu hx h).mono fun _ _ ⟨b, h1, h2, h3⟩ => ⟨by rw [h1, h2 ts rfl], h3⟩
theorem RP.low {w : World} {g : Nat} {A : Option Addr} {c : Nat} {N : Int} {toks : List Tok} {i : Nat} {a e : Int} (h : RP w g A c N toks i a e) {k : Nat} {t : Tok} (ht : toks[k]? = some t) {b off : Nat} (hA : A = some ⟨b, off, none⟩) : b < g := by
 have hlt : k < toks.length := (List.getElem?_eq_some_iff.1 ht).1
 obtain ⟨_, A', c', hv, _, _, hx⟩ := h.seq
 injection hv with h1 h2 h3
 obtain ⟨b', off', hA', _, hP, _⟩ := hx (by omega)
 rw [← h1, hA] at hA'
 cases hA'
 exact hP
theorem kindZ_T (ts : List Tok) (k : Int) (hk : k ≠ -1) : kindT ts k = decide (kindZ ts = k) := by
 cases ts with
 | nil => exact (decide_eq_false (fun h => hk h.symm)).symm
 | cons t r => show (t.kind == k) = decide (t.kind = k); rw [Bool.eq_iff_iff, beq_iff_eq, decide_eq_true_eq]
theorem sLruc_sym : SymX sLruc := ⟨125, [], rfl, by decide⟩
abbrev sNe : List UInt8 := [33, 61]
abbrev sPre : List UInt8 := [94, 61]
abbrev sEq : List UInt8 := [61]
theorem sNe_sym : SymX sNe := ⟨33, [61], rfl, by decide⟩
theorem sPre_sym : SymX sPre := ⟨94, [61], rfl, by decide⟩
theorem sEq_sym : SymX sEq := ⟨61, [], rfl, by decide⟩
theorem isT_text {ts : List Tok} {k : Int} {x : List UInt8} (h : isT ts k x = true) : kindT ts k = true ∧ (headT ts).text = x := by
 cases ts with
 | nil => cases h
 | cons t r =>
  have h' : (t.kind == k && t.text == x) = true := h
  simp only [Bool.and_eq_true, beq_iff_eq] at h'
  exact ⟨by show (t.kind == k) = true; simp [h'.1], h'.2⟩
theorem isT_of {ts : List Tok} {k : Int} {x : List UInt8} (h1 : kindT ts k = true) (h2 : (headT ts).text = x) : isT ts k x = true := by
 cases ts with
 | nil => cases h1
 | cons t r =>
  show (t.kind == k && t.text == x) = true
  have h1' : (t.kind == k) = true := h1
  have h2' : t.text = x := h2
  simp [h1', h2']
theorem idx_match {x : List UInt8} (h : 0 ≤ idxT matchT x) : x = sEq ∨ x = sNe ∨ x = sPre := by
 unfold idxT at h
 split at h
 ·next i hi =>
  rw [List.findIdx?_eq_some_iff_getElem] at hi
  obtain ⟨hi, hx, _⟩ := hi
  have hi' : i < 3 := hi
  match i, hi' with
  | 0, _ => left; simpa [matchT] using (beq_iff_eq.1 hx).symm
  | 1, _ => right; left; simpa [matchT] using (beq_iff_eq.1 hx).symm
  | 2, _ => right; right; simpa [matchT] using (beq_iff_eq.1 hx).symm
 ·omega
/-- the sign of a matcher -/
def SignR (N : Int) (s2 s3 : StP) (k : Int) : Prop := (∀ f, s2 = .error f → s3 = .error f) ∧ ∀ ts, s2 = .ok ts → (kindT ts 3 = true ∧ 0 ≤ idxT matchT (headT ts).text → s3 = .ok ts ∧ k = idxT matchT (headT ts).text) ∧ (¬ (kindT ts 3 = true ∧ 0 ≤ idxT matchT (headT ts).text) → s3 = .error (failAt ts N, 2))
theorem sign_is {N : Int} {s2 : StP} {b : Bool} {x : List UInt8} {k : Int} (h : ∀ ts, s2 = .ok ts → b = isT ts 3 x) (hb : b = true) (hk : idxT matchT x = k) (h0 : 0 ≤ k) : SignR N s2 s2 k := by
 refine ⟨fun f hf => hf, fun ts hs => ?_⟩
 obtain ⟨h1, h2⟩ := isT_text ((h ts hs).symm.trans hb)
 rw [h2, hk]
 exact ⟨fun _ => ⟨hs, rfl⟩, fun hn => absurd ⟨h1, h0⟩ hn⟩
theorem sign_no {N : Int} {s2 : StP} {b1 b2 b3 : Bool} {k : Int} (h1 : ∀ ts, s2 = .ok ts → b1 = isT ts 3 sNe) (h2 : ∀ ts, s2 = .ok ts → b2 = isT ts 3 sPre) (h3 : ∀ ts, s2 = .ok ts → b3 = isT ts 3 sEq) (e1 : b1 = false) (e2 : b2 = false) (e3 : b3 = false) : SignR N s2 (failS s2 N 2) k := by
 refine ⟨fun f hf => by rw [hf]; rfl, fun ts hs => ?_⟩
 have a1 := (h1 ts hs).symm.trans e1
 have a2 := (h2 ts hs).symm.trans e2
 have a3 := (h3 ts hs).symm.trans e3
 refine ⟨fun hn => ?_, fun _ => by rw [hs]; rfl⟩
 rcases idx_match hn.2 with h | h | h
 ·rw [isT_of hn.1 h] at a3; cases a3
 ·rw [isT_of hn.1 h] at a1; cases a1
 ·rw [isT_of hn.1 h] at a2; cases a2
def KindR (N : Int) (s4 s5 : StP) : Prop := (∀ f, s4 = .error f → s5 = .error f) ∧ ∀ ts, s4 = .ok ts → s5 = if kindT ts 2 = true then .ok ts else .error (failAt ts N, 2)
/-- a whole matcher -/
theorem match_chain {N : Int} {ts : List Tok} {len : Nat} {s1 s2 s3 s4 s5 : StP} {x : ByteArray} {k : Int} (hlen : len ≤ 8)
  (h1 : s1 = if kindZ ts = 0 ∧ len = 8 then .error (failAt ts N, 4) else .ok ts) (hx : x = strR (bindS s1 (wordM N))) (h2 : s2 = sOf (bindS s1 (wordM N)))
  (h3 : SignR N s2 s3 k) (h4 : s4 = tailS s3) (h5 : KindR N s4 s5) :
  (∀ f, s5 = .error f → matchM N len ts = .error f) ∧ ∀ ts5, s5 = .ok ts5 → len < 8 ∧ matchM N len ts = .ok ((x, k, bsL (headT ts5).text), ts5.tail) ∧ kindT ts5 2 = true ∧ ts5.length < ts.length := by
 have kz := kindZ_T ts 0 (by omega)
 by_cases hk : kindZ ts = 0
 ·rw [decide_eq_true hk] at kz
  by_cases h8 : len = 8
  ·rw [if_pos ⟨hk, h8⟩] at h1
   subst h1
   have h2' : s2 = .error (failAt ts N, 4) := h2
   have h3' := h3.1 _ h2'
   rw [h3'] at h4
   have h5' := h5.1 _ h4
   rw [h5']
   refine ⟨fun f hf => ?_, fun _ hf => by cases hf⟩
   cases hf
   unfold matchM
   rw [if_pos kz, if_pos (by omega)]; rfl
  ·rw [if_neg (fun h => h8 h.2)] at h1
   subst h1
   have hw : wordM N ts = .ok ((headT ts).text, ts.tail) := by unfold wordM; rw [if_pos kz]
   have hb : bindS (.ok ts) (wordM N) = .ok ((headT ts).text, ts.tail) := hw
   rw [hb] at hx h2
   have hx' : x = bsL (headT ts).text := hx
   have h2' : s2 = .ok ts.tail := h2
   have hm : matchM N len ts = if kindT ts.tail 3 = true ∧ 0 ≤ idxT matchT (headT ts.tail).text then (if kindT ts.tail.tail 2 = true then .ok ((bsL (headT ts).text, idxT matchT (headT ts.tail).text, bsL (headT ts.tail.tail).text), ts.tail.tail.tail) else bad N ts.tail.tail 2) else bad N ts.tail 2 := by
    unfold matchM; rw [if_pos kz, if_neg (by omega)]
   by_cases hs : kindT ts.tail 3 = true ∧ 0 ≤ idxT matchT (headT ts.tail).text
   ·obtain ⟨h3', rfl⟩ := (h3.2 _ h2').1 hs
    rw [h3'] at h4
    have h4' : s4 = .ok ts.tail.tail := h4
    have h5' := h5.2 _ h4'
    rw [if_pos hs] at hm
    by_cases hv : kindT ts.tail.tail 2 = true
    ·rw [if_pos hv] at h5' hm
     rw [h5']
     refine ⟨fun f hf => (by cases hf), fun ts5 hf => ?_⟩
     cases hf
     refine ⟨by omega, by rw [hm, hx'], hv, ?_⟩
     cases ts with
     | nil => simp [kindT] at kz
     | cons t r => simp only [List.tail_cons, List.length_tail, List.length_cons]; omega
    ·rw [if_neg hv] at h5' hm
     rw [h5']
     exact ⟨fun f hf => by cases hf; exact hm, fun ts5 hf => by cases hf⟩
   ·have h3' := (h3.2 _ h2').2 hs
    rw [h3'] at h4
    have h5' := h5.1 _ h4
    rw [if_neg hs] at hm
    rw [h5']
    exact ⟨fun f hf => by cases hf; exact hm, fun ts5 hf => by cases hf⟩
 ·rw [decide_eq_false hk] at kz
  rw [if_neg (fun h => hk h.1)] at h1
  subst h1
  have hw : wordM N ts = .error (failAt ts N, 2) := by unfold wordM; rw [if_neg (by rw [kz]; simp)]; rfl
  have hb : bindS (.ok ts) (wordM N) = .error (failAt ts N, 2) := hw
  rw [hb] at h2
  have h3' := h3.1 _ h2
  rw [h3'] at h4
  have h5' := h5.1 _ h4
  rw [h5']
  refine ⟨fun f hf => ?_, fun _ hf => by cases hf⟩
  cases hf
  unfold matchM
  rw [if_neg (by rw [kz]; simp)]; rfl
theorem sign_ne {N : Int} {s2 s3 : StP} {k : Int} (h3 : SignR N s2 s3 k) : ∀ ts, s3 = .ok ts → ts ≠ [] := by
 intro ts hs
 match s2, h3 with
 | .error f, h3 => have := h3.1 f rfl; rw [hs] at this; cases this
 | .ok ts2, h3 =>
  by_cases h : kindT ts2 3 = true ∧ 0 ≤ idxT matchT (headT ts2).text
  ·have h' := ((h3.2 _ rfl).1 h).1
   rw [hs] at h'
   cases h'
   intro h0
   rw [h0] at h
   cases h.1
  ·have h' := (h3.2 _ rfl).2 h
   rw [hs] at h'; cases h'
def matsRest (en : Int) (n : Nat) (l : List Mat) (ts : List Tok) : Res (List Mat) := andR (matchsM n en l ts) fun l ts2 => andR (symbolM en sLruc ts2) fun _ ts3 => .ok (l, ts3)
theorem matsRest_one (en : Int) (n : Nat) (l : List Mat) (ts : List Tok) : matsRest en (n + 1) l ts = andR (matchM en l.length ts) fun x ts' => if isT ts' 3 sComma then matsRest en n (l ++ [x]) ts'.tail else andR (symbolM en sLruc ts') fun _ ts3 => .ok (l ++ [x], ts3) := by
 unfold matsRest
 rw [matchsM]
 cases matchM en l.length ts with
 | error f => rfl
 | ok p =>
  obtain ⟨x, ts'⟩ := p
  show andR (if isT ts' 3 sComma = true then _ else _) _ = if isT ts' 3 sComma = true then _ else _
  split <;> rfl
theorem sMatM_go {en : Int} {ts : List Tok} (h : isT ts 3 sCurl = true) : sMatM en ts = if ([] : List Mat) = [] ∧ isT ts.tail 3 sLruc = true then .ok ([], ts.tail.tail) else matsRest en (ts.tail.length + 1) [] ts.tail := by
 unfold sMatM matsRest
 rw [if_pos h]
 by_cases h2 : isT ts.tail 3 sLruc = true
 ·rw [if_pos h2, if_pos ⟨rfl, h2⟩]
 ·rw [if_neg h2, if_neg (fun hh => h2 hh.2)]
def VMats (B : Nat) (l : List Mat) (v : Value) (w : World) : Prop := l.length ≤ 8 ∧ (∀ m ∈ l, MatOk m) ∧ SeqP w (fun b _ => B ≤ b) 3 v l.length (l.flatMap matCells)
theorem mats_end {g : Nat} {A : Option Addr} {c : Nat} {N : Int} {toks : List Tok} {w w' : World} {r : Res (List Mat)} {ts : List Tok} {l : List Mat} {v : Value} (hr : r = andR (symbolM N sLruc ts) fun _ ts3 => .ok (l, ts3)) (ho : Only g w w') (hp : RX w' g A c N toks (sOf (bindS (.ok ts) (symbolM N sLruc)))) (hs : SeqP w' (fun b _ => w.heap.size ≤ b) 3 v l.length (l.flatMap matCells)) (hl : l.length ≤ 8) (hm : ∀ m ∈ l, MatOk m) : RetU g A c N toks w r (VMats w.heap.size) GSl (.returned v) w' := by
 have hp' : RX w' g A c N toks (sOf (symbolM N sLruc ts)) := hp
 revert hr hp'
 cases symbolM N sLruc ts with
 | error f =>
  intro hr hp'
  obtain ⟨A1, c1, rfl, _⟩ := hs.form
  exact RetU.er (f := f) hr ho hp' ⟨_, _, _, rfl⟩
 | ok p => obtain ⟨u, us⟩ := p; intro hr hp'; exact RetU.ok (us := us) hr ho hp' ⟨hl, hm, hs⟩
/-- the loop: the matchers so far, the state -/
def MtI (w : World) (g : Nat) (A : Option Addr) (c : Nat) (N : Int) (toks : List Tok) (M : Res (List Mat)) (v : Value) (wr : World) : Prop :=
 ∃ (l : List Mat) (s : StP), wr.ownsRow w.heap.size 91 3 v l.length (l.flatMap matCells) ∧ l.length ≤ 8 ∧ (∀ m ∈ l, MatOk m) ∧ Only g w wr ∧ RX wr g A c N toks s ∧
  (∀ f, s = .error f → M = .error f) ∧ ∀ ts, s = .ok ts → ∃ n, ts.length < n ∧ (l ≠ [] → kindT ts 0 = true) ∧ M = if l = [] ∧ isT ts 3 sLruc = true then .ok ([], ts.tail) else matsRest N n l ts
set_option maxHeartbeats 8000000 in
set_option maxRecDepth 100000 in
theorem rmats_u {w : World} {g : Nat} {A : Option Addr} {c : Nat} {N : Int} {toks : List Tok} {s : StP} (hc : ∀ ts, s = .ok ts → isT ts 3 sCurl = true) (h : RX w g A c N toks s) : Calls Tryz.prog 160 #[.pointer (some ⟨g, 0, none⟩)] w (RetU g A c N toks w (bindS s (sMatM N)) (VMats w.heap.size) GSl) := by
 obtain ⟨j0, hj, hy0, hy1, hy2⟩ := info_parts matInfo
 have HJ := Box.mk (And.intro hj (And.intro hy0 (And.intro hy1 hy2)))
 have H := Box.mk h
 have HC := Box.mk hc
 have HG : Box (g < w.heap.size) := ⟨h.lt⟩
 obtain ⟨Mm, HMM⟩ : ∃ Mm, Box (bindS s (sMatM N) = Mm) := ⟨_, ⟨rfl⟩⟩
 rw [HMM.out]
 clear h hc hj hy0 hy1 hy2
 go_enter Tryz.func160, Tryz.ntmps160
 go_wp2_with fail
 refine (rtake_u (fun ts hs => by have := HC.out ts hs; intro h0; rw [h0] at this; cases this) H.out).mono ?_
 rintro e w1 ⟨rfl, ho, hp⟩
 have HI : Box (MtI w g A c N toks Mm (.slice none 0 0) w1) := ⟨⟨[], tailS s, World.ownsRow_nil _ _ _ _, by simp, by simp, ho, hp, fun f hf => (by
   rw [← HMM.out]
   match s, hf with
   | .error f', hf => have hf' : (Except.error f' : StP) = .error f := hf; cases hf'; rfl
   | .ok ts, hf => cases hf), fun ts hf => (by
   rw [← HMM.out]
   match s, hf, HC.out with
   | .error f', hf, _ => cases hf
   | .ok ts0, hf, hc => 
    have hf' : (Except.ok ts0.tail : StP) = .ok ts := hf
    cases hf'
    exact ⟨ts0.tail.length + 1, by omega, by simp, sMatM_go (hc ts0 rfl)⟩)⟩⟩
 clear ho hp H
 go_wp2_with fail
 go_loopw [3] (fun v wr => MtI w g A c N toks Mm v wr) (fun _ wr => leftX g toks.length wr)
 case atStart => exact HI.out
 case round =>
  clear HI
  obtain ⟨l, s, hrow, hl8, hok, hO, hp, hE, hG⟩ := hrel
  have HRW := Box.mk hrow
  have HO := Box.mk hO
  have HP := Box.mk hp
  have HOK := Box.mk hok
  have hwz := hO.size
  obtain ⟨A3, c3, hv3, hl63⟩ := (SeqP.of_own (P := fun b _ => True) HRW.out (fun _ _ _ _ => trivial)).form
  subst hv3
  have HMS := Box.mk hp.left
  have c4 := hp.err
  obtain ⟨ia, aa, hrp, -, -⟩ := hp.rp
  clear hrow hO hok
  rcases s with f | ts
  ·have HE := Box.mk (hE f rfl)
   have he2 : (f.2 == 0) = false := by have := hp.bad rfl; simp [this]
   have c4' : wr.cell? ⟨g, 4, none⟩ = some (.int .i64 f.2) := c4
   clear hp hE hG c4 hrp
   go_wp2_with fail
   refine (rexpect_v sLruc ⟨#[125]⟩ rfl sLruc_sym HP.out).mono ?_
   rintro e' w9 ⟨rfl, ho9, hp9⟩
   have HP9 := Box.mk hp9
   have HO9 := Box.mk (HO.out.trans ho9)
   clear hp9 ho9
   go_wp2_with fail
   go_ret
   exact RetU.er HE.out HO9.out HP9.out ⟨_, _, _, rfl⟩
  ·obtain ⟨n, hn, hw, hM⟩ := hG ts rfl
   have HN := Box.mk hn
   have HWD := Box.mk hw
   have HM := Box.mk hM
   have c4' : wr.cell? ⟨g, 4, none⟩ = some (.int .i64 0) := c4
   have HTO : Box (ToksOk ts) := ⟨(hp.wfd rfl).2⟩
   obtain ⟨q, HQ⟩ : ∃ q, Box (isT ts 3 sLruc = q) := ⟨_, ⟨rfl⟩⟩
   clear hp hE hG c4 hrp hn hw hM
   go_wp2_with fail
   refine (ris_o sLruc ⟨#[125]⟩ rfl sLruc_sym HP.out).mono ?_
   rintro e w3 ⟨rfl, m, rfl⟩
   rw [HQ.out]
   have HP1 := Box.mk (HP.out.drewN m)
   have HO1 : Box (Only g w (wr.drewN m)) := ⟨HO.out.trans (Only.of_below (below_drewN _ _))⟩
   have HR1 : Box ((wr.drewN m).ownsRow w.heap.size 91 3 (.slice A3 l.length c3) l.length (l.flatMap matCells)) := ⟨own_belowR HRW.out (below_drewN _ _)⟩
   clear HP HO HRW c4'
   generalize wr.drewN m = W at HP1 HO1 HR1 ⊢
   cases q
   ·have HMB : Box (Mm = matsRest N n l ts) := ⟨by rw [HM.out, if_neg (fun hh => by rw [HQ.out] at hh; exact absurd hh.2 (by simp))]⟩
    obtain ⟨n', hn'⟩ : ∃ n', n = n' + 1 := ⟨n - 1, by have := HN.out; omega⟩
    subst hn'
    go_upto_region 4 with (fail)
    go_cut [24] (fun v wx => v = .bool (decide (kindZ ts = 0 ∧ l.length = 8)) ∧ ∃ m, wx = W.drewN m)
    case first =>
     obtain ⟨kz, hkz⟩ : ∃ kz, kindZ ts = kz := ⟨_, rfl⟩
     have HKZ := Box.mk hkz
     clear hkz
     by_cases hk : kz = 0
     ·have hk2 : (kz == 0) = true := by simp [hk]
      have h82 : ((l.length : Int) == 8) = decide (l.length = 8) := by rw [Bool.eq_iff_iff]; simp; omega
      go_wp2_with (go_at_call 130; refine (rkind_o HP1.out).mono ?_; rw [HKZ.out]; rintro e w4 ⟨rfl, m2, rfl⟩)
      go_meet
      exact ⟨by rw [HKZ.out]; simp [hk], _, rfl⟩
     ·have hk2 : (kz == 0) = false := by simp [hk]
      go_wp2_with (go_at_call 130; refine (rkind_o HP1.out).mono ?_; rw [HKZ.out]; rintro e w4 ⟨rfl, m2, rfl⟩)
      go_meet
      exact ⟨by rw [HKZ.out]; simp [hk], _, rfl⟩
    case rest =>
     obtain ⟨rfl, m4, rfl⟩ := hcut
     have HP2 := Box.mk (HP1.out.drewN m4)
     have HO2 : Box (Only g w (W.drewN m4)) := ⟨HO1.out.trans (Only.of_below (below_drewN _ _))⟩
     have HR2 : Box ((W.drewN m4).ownsRow w.heap.size 91 3 (.slice A3 l.length c3) l.length (l.flatMap matCells)) := ⟨own_belowR HR1.out (below_drewN _ _)⟩
     clear HP1 HO1 HR1
     generalize W.drewN m4 = W at HP2 HO2 HR2 ⊢
     go_upto_if 24 with (fail)
     go_cut [] (fun wx => ∃ s1, Box (RX wx g A c N toks s1) ∧ Box (Only g w wx) ∧ Box (wx.ownsRow w.heap.size 91 3 (.slice A3 l.length c3) l.length (l.flatMap matCells)) ∧ Box (s1 = if kindZ ts = 0 ∧ l.length = 8 then .error (failAt ts N, 4) else .ok ts))
     case first =>
      by_cases hk : kindZ ts = 0 ∧ l.length = 8
      ·have hk2 := decide_eq_true hk
       have HK := Box.mk hk
       clear hk
       generalize decide (kindZ ts = 0 ∧ l.length = 8) = qk at hk2 ⊢
       subst hk2
       go_wp2_with fail
       refine (rfail_u 4 (by omega) HP2.out).mono ?_
       rintro e w5 ⟨rfl, ho, hp⟩
       have HP3 := Box.mk hp
       have HO3 := Box.mk (HO2.out.trans ho)
       have HR3 := Box.mk (own_only HR2.out ho HG.out)
       clear ho hp
       go_wp2_with fail
       go_meet
       exact ⟨_, HP3, HO3, HR3, ⟨by rw [if_pos HK.out]; rfl⟩⟩
      ·have hk2 := decide_eq_false hk
       have HK := Box.mk hk
       clear hk
       generalize decide (kindZ ts = 0 ∧ l.length = 8) = qk at hk2 ⊢
       subst hk2
       go_wp2_with fail
       go_meet
       exact ⟨.ok ts, HP2, HO2, HR2, ⟨by rw [if_neg HK.out]⟩⟩
     case rest =>
      obtain ⟨s1, HP3, HO3, HR3, H1⟩ := hcut
      rename World => W3
      clear HP2 HO2 HR2
      obtain ⟨x, HX⟩ : ∃ x, Box (strR (bindS s1 (wordM N)) = x) := ⟨_, ⟨rfl⟩⟩
      obtain ⟨s2, HS2⟩ : ∃ s2, Box (sOf (bindS s1 (wordM N)) = s2) := ⟨_, ⟨rfl⟩⟩
      go_wp2_with fail
      refine (rword_v HP3.out).mono ?_
      rw [HX.out, HS2.out]
      rintro e w5 ⟨rfl, ho, hp⟩
      have HP5 := Box.mk hp
      have HO5 := Box.mk (HO3.out.trans ho)
      have HR5 := Box.mk (own_only HR3.out ho HG.out)
      have hz5 := HO5.out.size
      have HGM : Box (g < w5.heap.size) := ⟨hp.lt⟩
      clear ho hp HP3 HO3 HR3
      go_upto_region 7 with (fail)
      have HP6 : Box (RX (w5.alloc (.cells #[.string x, .int .i64 0, .string ⟨#[]⟩] 91)) g A c N toks s2) := ⟨HP5.out.below (bel1 _ _)⟩
      have HQ6 : Box (Only g w5 (w5.alloc (.cells #[.string x, .int .i64 0, .string ⟨#[]⟩] 91))) := ⟨Only.of_below (bel1 _ _)⟩
      have HM6 : Box (Blk (w5.alloc (.cells #[.string x, .int .i64 0, .string ⟨#[]⟩] 91)) w5.heap.size 91 #[.string x, .int .i64 0, .string ⟨#[]⟩]) := ⟨Blk.new _ _ _⟩
      obtain ⟨gm, hgm⟩ : ∃ gm, w5.heap.size = gm := ⟨_, rfl⟩
      have HGZ := Box.mk hgm
      rw [hgm] at HGM HM6 ⊢
      generalize w5.alloc (.cells #[.string x, .int .i64 0, .string ⟨#[]⟩] 91) = W6 at HP6 HQ6 HM6 ⊢
      clear HP5 hgm
      go_upto_if 31 with (go_at_call 105; refine (ris_s sNe ⟨#[33, 61]⟩ rfl sNe_sym HP6.out).mono ?_; rintro e w7 ⟨b1, rfl, hb1, m7, rfl⟩)
      have HB1 := Box.mk hb1
      have HP7 := Box.mk (HP6.out.drewN m7)
      have HQ7 : Box (Only g w5 (W6.drewN m7)) := ⟨HQ6.out.trans (Only.of_below (below_drewN _ _))⟩
      have HM7 := Box.mk (HM6.out.drewN m7)
      clear HP6 HQ6 HM6 hb1
      generalize W6.drewN m7 = W at HP7 HQ7 HM7 ⊢
      go_cut [] (fun wx => ∃ k s3, Box (RX wx g A c N toks s3) ∧ Box (Only g w5 wx) ∧ Box (Blk wx gm 91 #[.string x, .int .i64 k, .string ⟨#[]⟩]) ∧ Box (SignR N s2 s3 k))
      case first =>
       have cf := HM7.out.frozen
       obtain ⟨mc0, mc1, mc2⟩ := HM7.out.c3
       cases b1
       ·go_wp2_with fail
        refine (ris_s sPre ⟨#[94, 61]⟩ rfl sPre_sym HP7.out).mono ?_
        rintro e w8 ⟨b2, rfl, hb2, m8, rfl⟩
        have HB2 := Box.mk hb2
        have HP8 := Box.mk (HP7.out.drewN m8)
        have HQ8 : Box (Only g w5 (W.drewN m8)) := ⟨HQ7.out.trans (Only.of_below (below_drewN _ _))⟩
        have HM8 := Box.mk (HM7.out.drewN m8)
        clear HP7 HQ7 HM7 hb2 cf mc0 mc1 mc2
        generalize W.drewN m8 = W8 at HP8 HQ8 HM8 ⊢
        have cf := HM8.out.frozen
        obtain ⟨mc0, mc1, mc2⟩ := HM8.out.c3
        cases b2
        ·go_wp2_with fail
         refine (ris_s sEq ⟨#[61]⟩ rfl sEq_sym HP8.out).mono ?_
         rintro e w9 ⟨b3, rfl, hb3, m9, rfl⟩
         have HB3 := Box.mk hb3
         have HP9 := Box.mk (HP8.out.drewN m9)
         have HQ9 : Box (Only g w5 (W8.drewN m9)) := ⟨HQ8.out.trans (Only.of_below (below_drewN _ _))⟩
         have HM9 := Box.mk (HM8.out.drewN m9)
         clear HP8 HQ8 HM8 hb3 cf mc0 mc1 mc2
         generalize W8.drewN m9 = W9 at HP9 HQ9 HM9 ⊢
         cases b3
         ·go_wp2_with fail
          refine (rfail_u 2 (by omega) HP9.out).mono ?_
          rintro e w10 ⟨rfl, ho, hp⟩
          have HP10 := Box.mk hp
          have HQ10 := Box.mk (HQ9.out.trans ho)
          have HM10 := Box.mk (ho.blk HM9.out (by have := HGM.out; omega))
          clear ho hp
          go_wp2_with fail
          go_meet
          exact ⟨0, _, HP10, HQ10, HM10, ⟨sign_no HB1.out HB2.out HB3.out rfl rfl rfl⟩⟩
         ·go_wp2_with fail
          go_meet
          exact ⟨0, _, HP9, HQ9, HM9, ⟨sign_is HB3.out rfl (by decide) (by omega)⟩⟩
        ·go_wp2_with fail
         go_meet
         exact ⟨2, _, ⟨HP8.out.onlyk (Only.setCell 1 _) HGM.out⟩, ⟨HQ8.out.newCell (by show w5.heap.size ≤ gm; have := HGZ.out; omega) _⟩, ⟨HM8.out.set 1 _⟩, ⟨sign_is HB2.out rfl (by decide) (by omega)⟩⟩
       ·go_wp2_with fail
        go_meet
        exact ⟨1, _, ⟨HP7.out.onlyk (Only.setCell 1 _) HGM.out⟩, ⟨HQ7.out.newCell (by show w5.heap.size ≤ gm; have := HGZ.out; omega) _⟩, ⟨HM7.out.set 1 _⟩, ⟨sign_is HB1.out rfl (by decide) (by omega)⟩⟩
      case rest =>
       obtain ⟨k, s3, HP8, HQ8, HM8, H3⟩ := hcut
       rename World => W8
       clear HP7 HQ7 HM7
       go_wp2_with fail
       refine (rtake_u (sign_ne H3.out) HP8.out).mono ?_
       obtain ⟨s4, HS4⟩ : ∃ s4, Box (tailS s3 = s4) := ⟨_, ⟨rfl⟩⟩
       rw [HS4.out]
       rintro e w9 ⟨rfl, ho, hp⟩
       have HP9 := Box.mk hp
       have HQ9 := Box.mk (HQ8.out.trans ho)
       have HM9 := Box.mk (ho.blk HM8.out (by have := HGM.out; omega))
       clear ho hp HP8 HQ8 HM8
       go_upto_if 45 with (go_at_call 130; refine (rkind_u HP9.out).mono ?_; rintro e w10 ⟨z, rfl, hz, m10, rfl⟩)
       have HZ := Box.mk hz
       have HP10 := Box.mk (HP9.out.drewN m10)
       have HQ10 : Box (Only g w5 (w9.drewN m10)) := ⟨HQ9.out.trans (Only.of_below (below_drewN _ _))⟩
       have HM10 := Box.mk (HM9.out.drewN m10)
       clear HP9 HQ9 HM9 hz
       generalize w9.drewN m10 = W10 at HP10 HQ10 HM10 ⊢
       go_cut [] (fun wx => ∃ s5, Box (RX wx g A c N toks s5) ∧ Box (Only g w5 wx) ∧ Box (Blk wx gm 91 #[.string x, .int .i64 k, .string ⟨#[]⟩]) ∧ Box (KindR N s4 s5))
       case first =>
        by_cases hz2 : z = 2
        ·have hz3 : (z != 2) = false := by simp [hz2]
         have HZ2 : Box (KindR N s4 s4) := ⟨⟨fun f hf => hf, fun ts' hs => by rw [if_pos (by rw [kindZ_T _ _ (by omega), ← HZ.out ts' hs, hz2]; rfl)]; exact hs⟩⟩
         clear hz2
         go_wp2_with fail
         go_meet
         exact ⟨_, HP10, HQ10, HM10, HZ2⟩
        ·have hz3 : (z != 2) = true := by simp [hz2]
         have HZ2 : Box (KindR N s4 (failS s4 N 2)) := ⟨⟨fun f hf => by rw [hf]; rfl, fun ts' hs => by rw [if_neg (by rw [kindZ_T _ _ (by omega), ← HZ.out ts' hs, decide_eq_false hz2]; simp), hs]; rfl⟩⟩
         clear hz2
         go_wp2_with fail
         refine (rfail_u 2 (by omega) HP10.out).mono ?_
         rintro e w11 ⟨rfl, ho, hp⟩
         have HP11 := Box.mk hp
         have HQ11 := Box.mk (HQ10.out.trans ho)
         have HM11 := Box.mk (ho.blk HM10.out (by have := HGM.out; omega))
         clear ho hp
         go_wp2_with fail
         go_meet
         exact ⟨_, HP11, HQ11, HM11, HZ2⟩
       case rest =>
        obtain ⟨s5, HP11, HQ11, HM11, H5⟩ := hcut
        rename World => W11
        clear HP10 HQ10 HM10
        have HCH := Box.mk (match_chain hl8 H1.out HX.out.symm HS2.out.symm H3.out HS4.out.symm H5.out)
        have c4 := HP11.out.err
        clear HZ HB1
        rcases s5 with f | ts5
        ·have he2 : (f.2 != 0) = true := by have := HP11.out.bad rfl; simp [this]
         have c4' : W11.cell? ⟨g, 4, none⟩ = some (.int .i64 f.2) := c4
         have HE : Box (Mm = .error f) := ⟨by rw [HMB.out, matsRest_one, HCH.out.1 f rfl]; rfl⟩
         have HO11 := Box.mk (HO5.out.trans HQ11.out)
         clear c4
         go_wp2_with fail
         refine (rexpect_v sLruc ⟨#[125]⟩ rfl sLruc_sym HP11.out).mono ?_
         rintro e' w9 ⟨rfl, ho9, hp9⟩
         have HP9 := Box.mk hp9
         have HO9 := Box.mk (HO11.out.trans ho9)
         clear hp9 ho9
         go_wp2_with fail
         go_ret
         exact RetU.er HE.out HO9.out HP9.out ⟨_, _, _, rfl⟩
        ·obtain ⟨hl8', hmm, hk5, hlt5⟩ := HCH.out.2 ts5 rfl
         obtain ⟨t, r, hd⟩ := kindT_cons hk5
         subst hd
         have HL := Box.mk (And.intro hl8' hlt5)
         have HME : Box (matchM N l.length ts = .ok ((x, k, bsL t.text), r)) := ⟨hmm⟩
         have HMK := Box.mk (matchM_ok HTO.out HME.out).1
         obtain ⟨i5, hi5, hrp⟩ := id HP11.out
         obtain ⟨ht, -, hlt⟩ := drop_cons hi5
         obtain ⟨b, off, hA, hb, hne, -, -, k0, k1, k2, k3⟩ := hrp.tok ht
         obtain ⟨d0, d1, d2, d3, d4⟩ := hrp.mem.c5
         have HGB : Box (b < g) := ⟨hrp.low ht hA⟩
         rw [hA] at d0
         have hlt2 : (i5 : Int) < (toks.length : Int) := by omega
         have hi0 : (0 : Int) ≤ (i5 : Int) := by omega
         obtain ⟨mc0, mc1, mc2⟩ := HM11.out.c3
         have cf := HM11.out.frozen
         have c4' : W11.cell? ⟨g, 4, none⟩ = some (.int .i64 0) := c4
         clear c4 d2 d3 d4 k0 k2 k3 ht hrp hi5 hk5 hmm hl8' hlt5 HCH
         obtain ⟨tx, htx⟩ : ∃ tx, bsL t.text = tx := ⟨_, rfl⟩
         rw [htx] at k1 HME HMK
         clear htx
         have hn1 : g ≠ gm := by have := HGM.out; omega
         have hn2 : b ≠ gm := by have := HGM.out; have := HGB.out; omega
         have hn3 : gm ≠ g := fun h => hn1 h.symm
         have hn4 : gm ≠ b := fun h => hn2 h.symm
         have hn5 : ¬ g = gm := hn1
         have hn6 : ¬ b = gm := hn2
         go_upto_region 17 with (fail)
         go_region_held3 (fun w' => w'.cell? ⟨g, 0, none⟩ = some (.slice (some ⟨b, off, none⟩) toks.length c) ∧ w'.cell? ⟨g, 1, none⟩ = some (.int .i64 (i5 : Int)) ∧ w'.cell? ⟨b, off + i5 * 4 + 1, none⟩ = some (.string tx)) (go_keep) (fail)
         go_upto_region 18 with (fail)
         have HP12 : Box (RX ((W11.setCell ⟨gm, 2, none⟩ (.string tx)).drew) g A c N toks (.ok (t :: r))) := ⟨(HP11.out.onlyk (Only.setCell 2 _) HGM.out).drewN 1⟩
         have HQ12 : Box (Only g w5 ((W11.setCell ⟨gm, 2, none⟩ (.string tx)).drew)) := ⟨(HQ11.out.newCell (by show w5.heap.size ≤ gm; have := HGZ.out; omega) _).trans (Only.of_below (below_drewN _ 1))⟩
         have HM12 : Box (Blk ((W11.setCell ⟨gm, 2, none⟩ (.string tx)).drew) gm 91 #[.string x, .int .i64 k, .string tx]) := ⟨(HM11.out.set 2 _).drewN 1⟩
         clear HP11 HQ11 HM11 d0 d1 k1 mc0 mc1 mc2 cf c4'
         generalize (W11.setCell ⟨gm, 2, none⟩ (.string tx)).drew = W12 at HP12 HQ12 HM12 ⊢
         go_wp2_with fail
         refine (rtake_u (fun ts hs => by cases hs; simp) HP12.out).mono ?_
         rintro e w13 ⟨rfl, ho, hp⟩
         have HP13 : Box (RX w13 g A c N toks (.ok r)) := ⟨hp⟩
         have HQ13 := Box.mk (HQ12.out.trans ho)
         have HM13 := Box.mk (ho.blk HM12.out (by have := HGM.out; omega))
         have HR13 := Box.mk (own_only HR5.out HQ13.out HG.out)
         have HO13 := Box.mk (HO5.out.trans HQ13.out)
         have hz13 := HO13.out.size
         clear ho hp HP12 HQ12 HM12 HR5 HO5 HQ13
         obtain ⟨mc0, mc1, mc2⟩ := HM13.out.c3
         have cf := HM13.out.frozen
         go_wp2_with (at_builtin; refine wpList_append_lies _ rfl _ _ 25 rfl w.heap.size 91 j0 _ 3 40 Tryz.underlying25 HJ.out.1 HJ.out.2.1 HJ.out.2.2.1 HJ.out.2.2.2 rfl (by decide) (.slice A3 l.length c3) l.length (l.flatMap matCells) rfl (by exact World.ownsRow.alloc HR13.out _) ⟨w13.heap.size, 0, none⟩ 1 1 (matCells (x, k, tx)) rfl rfl (cells3 _ _ _ _ _) (by intro u hu; simp [matCells] at hu; rcases hu with rfl | rfl | rfl <;> rfl) (by decide) (by unfold maxLen; omega) (by omega) (by simp; omega) _ rfl ?_; intro g8 cap8 w14 hown14 hg14 hat14 hlt14)
         have HB14 : Box (Below w.heap.size w13 w14) := ⟨((Below.refl _ _).alloc (by omega) _).trans (grow_lt (World.ownsRow.alloc HR13.out _) hg14 (by simp; omega))⟩
         have HR14 : Box (w14.ownsRow w.heap.size 91 3 (.slice (some ⟨g8, 0, none⟩) (l.length + 1) cap8) (l ++ [(x, k, tx)]).length ((l ++ [(x, k, tx)]).flatMap matCells)) := ⟨by simpa [matCells] using hown14⟩
         have HP14 := Box.mk (HP13.out.far HB14.out HG.out)
         have HO14 : Box (Only g w w14) := ⟨HO13.out.low_then HB14.out⟩
         have hz14 := HO14.out.size
         clear hown14 hg14 hat14 hlt14 HP13 HM13 HR13 HO13 mc0 mc1 mc2 cf
         have HMR : Box (Mm = if isT r 3 sComma = true then matsRest N n' (l ++ [(x, k, tx)]) r.tail else andR (symbolM N sLruc r) fun _ ts3 => .ok (l ++ [(x, k, tx)], ts3)) := ⟨by rw [HMB.out, matsRest_one, HME.out]; rfl⟩
         have HOK9 : Box (∀ m ∈ l ++ [(x, k, tx)], MatOk m) := ⟨fun m hm => by
          rcases List.mem_append.1 hm with hm | hm
          ·exact HOK.out m hm
          ·rw [List.mem_singleton] at hm; rw [hm]; exact HMK.out⟩
         have HLN : Box ((l ++ [(x, k, tx)]).length = l.length + 1) := ⟨by simp⟩
         generalize l ++ [(x, k, tx)] = l9 at HMR HOK9 HLN HR14
         go_wp2_with fail
         refine (ris_o sComma ⟨#[44]⟩ rfl sComma_sym HP14.out).mono ?_
         obtain ⟨q2, hq2⟩ : ∃ q, isT r 3 sComma = q := ⟨_, rfl⟩
         have HQ2 := Box.mk hq2
         rw [hq2]
         rintro e w15 ⟨rfl, m15, rfl⟩
         have HP15 := Box.mk (HP14.out.drewN m15)
         have HO15 : Box (Only g w (w14.drewN m15)) := ⟨HO14.out.trans (Only.of_below (below_drewN _ _))⟩
         have HR15 := Box.mk (own_belowR HR14.out (below_drewN w14 m15))
         clear HP14 HO14 HR14 hq2
         generalize w14.drewN m15 = W15 at HP15 HO15 HR15 ⊢
         have hz15 := HO15.out.size
         cases q2
         ·have HMR2 : Box (Mm = andR (symbolM N sLruc r) fun _ ts3 => .ok (l9, ts3)) := ⟨by rw [HMR.out, HQ2.out]; rfl⟩
          have HL9 : Box (l9.length ≤ 8) := ⟨by have := HLN.out; have := HL.out.1; omega⟩
          go_wp2_with fail
          refine (rexpect_v sLruc ⟨#[125]⟩ rfl sLruc_sym HP15.out).mono ?_
          rintro e' w9 ⟨rfl, ho9, hp9⟩
          have HP9 := Box.mk hp9
          have HO9 := Box.mk (HO15.out.trans ho9)
          have HR9 := Box.mk (own_only HR15.out ho9 HG.out)
          clear hp9 ho9
          go_wp2_with fail
          go_ret
          exact mats_end HMR2.out HO9.out HP9.out (SeqP.of_own HR9.out fun b c hb _ => hb) HL9.out HOK9.out
         ·have HMR2 : Box (Mm = matsRest N n' l9 r.tail) := ⟨by rw [HMR.out, HQ2.out]; rfl⟩
          go_wp2_with fail
          refine (rtake_u (fun ts hs => by cases hs; intro h0; have := HQ2.out; rw [h0] at this; cases this) HP15.out).mono ?_
          rintro e w16 ⟨rfl, ho, hp⟩
          have HP16 : Box (RX w16 g A c N toks (.ok r.tail)) := ⟨hp⟩
          have HO16 := Box.mk (HO15.out.trans ho)
          have HR16 := Box.mk (own_only HR15.out ho HG.out)
          clear ho hp HP15 HO15 HR15
          go_wp2_with fail
          refine (rkind_o HP16.out).mono ?_
          have HK := Box.mk (kindZ_T r.tail 0 (by omega))
          obtain ⟨kz, hkz⟩ : ∃ kz, kindZ r.tail = kz := ⟨_, rfl⟩
          rw [hkz] at HK ⊢
          clear hkz
          rintro e w17 ⟨rfl, m17, rfl⟩
          have HP17 := Box.mk (HP16.out.drewN m17)
          have HO17 : Box (Only g w (w16.drewN m17)) := ⟨HO16.out.trans (Only.of_below (below_drewN _ _))⟩
          have HR17 := Box.mk (own_belowR HR16.out (below_drewN w16 m17))
          clear HP16 HO16 HR16
          generalize w16.drewN m17 = W17 at HP17 HO17 HR17 ⊢
          have HNI : Box (r.tail.length < n' ∧ r.tail.length < ts.length) := ⟨by have := HN.out; have := HL.out.2; simp at *; omega⟩
          by_cases hk9 : kz = 0
          ·have hk92 : (kz != 0) = false := by simp [hk9]
           have HKT : Box (kindT r.tail 0 = true) := ⟨by rw [HK.out, decide_eq_true hk9]⟩
           clear hk9
           go_wp2_with fail
           go_roundw
           ·exact ⟨l9, .ok r.tail, HR17.out, by have := HLN.out; have := HL.out.1; omega, HOK9.out, HO17.out, HP17.out, fun f hf => (by cases hf), fun ts' hs => by
             cases hs
             exact ⟨n', HNI.out.1, fun _ => HKT.out, by rw [if_neg (fun hh => by have := HLN.out; rw [hh.1] at this; simp at this)]; exact HMR2.out⟩⟩
           ·rw [HMS.out, HP17.out.left]; have := HNI.out; simp only [leftS]; omega
          ·have hk92 : (kz != 0) = true := by simp [hk9]
           have HF : Box (Mm = .error (failAt r.tail N, 2)) := ⟨by
            rw [HMR2.out]
            obtain ⟨n'', hn''⟩ : ∃ n'', n' = n'' + 1 := ⟨n' - 1, by have := HNI.out; omega⟩
            rw [hn'', matsRest_one]
            have : matchM N l9.length r.tail = .error (failAt r.tail N, 2) := by unfold matchM; rw [HK.out, decide_eq_false hk9]; rfl
            rw [this]; rfl⟩
           clear hk9
           go_wp2_with fail
           refine (rfail_u 2 (by omega) HP17.out).mono ?_
           rintro e w18 ⟨rfl, ho, hp⟩
           have HP18 : Box (RX w18 g A c N toks (.error (failAt r.tail N, 2))) := ⟨hp⟩
           have HO18 := Box.mk (HO17.out.trans ho)
           have HR18 := Box.mk (own_only HR17.out ho HG.out)
           clear ho hp
           go_wp2_with fail
           go_roundw
           ·exact ⟨l9, .error (failAt r.tail N, 2), HR18.out, by have := HLN.out; have := HL.out.1; omega, HOK9.out, HO18.out, HP18.out, fun f hf => (by cases hf; exact HF.out), fun ts' hs => (by cases hs)⟩
           ·rw [HMS.out, HP18.out.left]; simp only [leftS]; omega
   ·obtain rfl : l = [] := by
     rcases l with _ | ⟨m0, l0⟩
     ·rfl
     ·have h1 := kind_ne (x := sLruc) (HWD.out (by simp))
      rw [HQ.out] at h1; cases h1
    have HMR : Box (Mm = andR (symbolM N sLruc ts) fun _ ts3 => .ok ([], ts3)) := ⟨by rw [HM.out, if_pos ⟨rfl, HQ.out⟩]; unfold symbolM; rw [if_pos HQ.out]; rfl⟩
    go_wp2_with fail
    refine (rexpect_v sLruc ⟨#[125]⟩ rfl sLruc_sym HP1.out).mono ?_
    rintro e' w9 ⟨rfl, ho9, hp9⟩
    have HP9 := Box.mk hp9
    have HO9 := Box.mk (HO1.out.trans ho9)
    have HR9 := Box.mk (own_only HR1.out ho9 HG.out)
    clear hp9 ho9
    go_wp2_with fail
    go_ret
    exact mats_end HMR.out HO9.out HP9.out (SeqP.of_own HR9.out fun b c hb _ => hb) (by simp) (by simp)
end
end Go.Proofs.YthoibeajhdhdhaaGreatDoor
