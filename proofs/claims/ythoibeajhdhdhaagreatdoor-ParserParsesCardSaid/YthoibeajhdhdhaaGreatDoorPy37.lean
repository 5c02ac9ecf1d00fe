/- Contracts, packed: Oi. -/
import Derived.Test.YthoibeajhdhdhaaGreatDoorPy22
import Derived.Test.YthoibeajhdhdhaaGreatDoorPy28
import Derived.Test.YthoibeajhdhdhaaGreatDoorPy36
set_option linter.unusedVariables false
set_option linter.unusedSimpArgs false
namespace Go.Proofs.YthoibeajhdhdhaaGreatDoor
section
open Go.RowKit FracM
/-- the frame: the parser's block g, the result's block, the block o of a variable -/
structure RF (w W : World) (g : Nat) (A : Option Addr) (c : Nat) (N : Int) (toks : List Tok) (s : StP) (o : Nat) (cs : Array Value) : Prop where
 only : Only g w W
 st : RX W g A c N toks s
 res : Blk W w.heap.size 29 zeroC
 out : Blk W o 29 cs
 new : w.heap.size < o
 low : g < w.heap.size
theorem RF.step {w W W' : World} {g : Nat} {A : Option Addr} {c : Nat} {N : Int} {toks : List Tok} {s s' : StP} {o : Nat} {cs : Array Value} (h : RF w W g A c N toks s o cs) (ho : Only g W W') (hp : RX W' g A c N toks s') : RF w W' g A c N toks s' o cs :=
 ⟨h.only.trans ho, hp, ho.blk h.res (by have := h.low; omega), ho.blk h.out (by have := h.low; have := h.new; omega), h.new, h.low⟩
theorem RF.next {w W W' : World} {g : Nat} {A : Option Addr} {c : Nat} {N : Int} {toks : List Tok} {s : StP} {o : Nat} {cs : Array Value} (h : RF w W g A c N toks s o cs) (hb : Below W.heap.size W W') : RF w W' g A c N toks s o cs :=
 h.step (Only.of_below hb) (h.st.below hb)
theorem RF.drewN {w W : World} {g : Nat} {A : Option Addr} {c : Nat} {N : Int} {toks : List Tok} {s : StP} {o : Nat} {cs : Array Value} (h : RF w W g A c N toks s o cs) (n : Nat) : RF w (W.drewN n) g A c N toks s o cs := h.next (below_drewN _ _)
theorem RF.set {w W : World} {g : Nat} {A : Option Addr} {c : Nat} {N : Int} {toks : List Tok} {s : StP} {o : Nat} {cs : Array Value} (h : RF w W g A c N toks s o cs) (i : Nat) (u : Value) : RF w (W.setCell ⟨o, i, none⟩ u) g A c N toks s o (cs.setIfInBounds i u) :=
 ⟨h.only.newCell (by show w.heap.size ≤ o; have := h.new; omega) u, h.st.onlyk (Only.setCell i u) (by have := h.low; have := h.new; omega), (Only.setCell i u).blk h.res (by have := h.new; omega), h.out.set i u, h.new, h.low⟩
theorem RF.size {w W : World} {g : Nat} {A : Option Addr} {c : Nat} {N : Int} {toks : List Tok} {s : StP} {o : Nat} {cs : Array Value} (h : RF w W g A c N toks s o cs) : o < W.heap.size := h.out.lt
theorem findI_idx (s : ByteArray) (l : List ByteArray) (k : Nat) : findI s l k = match (l.map fun x => x.toList).findIdx? (fun y => y == s.toList) with | some i => ((k + i : Nat) : Int) | none => -1 := by
 induction l generalizing k with
 | nil => rfl
 | cons x xs ih =>
  rw [findI, List.map_cons, List.findIdx?_cons]
  by_cases h : (x.toList == s.toList) = true
  ·rw [if_pos h, if_pos h]; simp
  ·rw [if_neg h, if_neg h, ih]
   cases (xs.map fun x => x.toList).findIdx? (fun y => y == s.toList) with
   | none => rfl
   | some i => show ((k + 1 + i : Nat) : Int) = ((k + (i + 1) : Nat) : Int); congr 1; omega
theorem toList_bsL (x : List UInt8) : (bsL x).toList = x := by
 rw [ByteArray.toList_eq]; exact bsL_lst x
def funL8 : List ByteArray := [⟨#[108, 97, 115, 116]⟩, ⟨#[108, 101, 97, 115, 116]⟩, ⟨#[103, 114, 101, 97, 116, 101, 115, 116]⟩, ⟨#[116, 111, 116, 97, 108]⟩, ⟨#[109, 101, 97, 110]⟩, ⟨#[105, 110, 99, 114, 101, 97, 115, 101]⟩, ⟨#[114, 97, 116, 101]⟩, ⟨#[107, 116, 104]⟩]
def grpL5 : List ByteArray := [⟨#[115, 117, 109]⟩, ⟨#[109, 105, 110]⟩, ⟨#[109, 97, 120]⟩, ⟨#[99, 111, 117, 110, 116]⟩, ⟨#[107, 116, 104]⟩]
theorem funL8_T : (funL8.map fun x => x.toList) = funcsT := by decide +kernel
theorem grpL5_T : (grpL5.map fun x => x.toList) = groupsT := by decide +kernel
theorem find_fun (x : List UInt8) : findI (bsL x) funL8 0 = idxT funcsT x := by
 rw [findI_idx, funL8_T, toList_bsL]; unfold idxT
 split <;> rename_i h <;> rw [h] <;> simp
theorem find_grp (x : List UInt8) : findI (bsL x) grpL5 0 = idxT groupsT x := by
 rw [findI_idx, grpL5_T, toList_bsL]; unfold idxT
 split <;> rename_i h <;> rw [h] <;> simp
abbrev funC : Array Value := #[.string ⟨#[108, 97, 115, 116]⟩, .string ⟨#[108, 101, 97, 115, 116]⟩, .string ⟨#[103, 114, 101, 97, 116, 101, 115, 116]⟩, .string ⟨#[116, 111, 116, 97, 108]⟩, .string ⟨#[109, 101, 97, 110]⟩, .string ⟨#[105, 110, 99, 114, 101, 97, 115, 101]⟩, .string ⟨#[114, 97, 116, 101]⟩, .string ⟨#[107, 116, 104]⟩]
abbrev grpC : Array Value := #[.string ⟨#[115, 117, 109]⟩, .string ⟨#[109, 105, 110]⟩, .string ⟨#[109, 97, 120]⟩, .string ⟨#[99, 111, 117, 110, 116]⟩, .string ⟨#[107, 116, 104]⟩]
theorem fun_at (W : World) : StrsP (W.alloc (.cells funC 9)) (.slice (some ⟨W.heap.size, 0, none⟩) 8 8) funL8 := SeqP.of_blk (P := AnyP) (size := 1) (n := 8) (Blk.new W funC 9) rfl (by omega) trivial
theorem grp_at (W : World) : StrsP (W.alloc (.cells grpC 9)) (.slice (some ⟨W.heap.size, 0, none⟩) 5 5) grpL5 := SeqP.of_blk (P := AnyP) (size := 1) (n := 5) (Blk.new W grpC 9) rfl (by omega) trivial
theorem strR_ok {s : StP} {ts : List Tok} {N : Int} (h : sOf (bindS s (wordM N)) = .ok ts) : ∃ t, s = .ok (t :: ts) ∧ t.kind = 0 ∧ strR (bindS s (wordM N)) = bsL t.text := by
 match s, h with
 | .ok ts0, h =>
  have hb : bindS (.ok ts0) (wordM N) = wordM N ts0 := rfl
  rw [hb] at h ⊢
  unfold wordM at h ⊢
  by_cases hk : kindT ts0 0 = true
  ·rw [if_pos hk] at h ⊢
   obtain ⟨t, r, rfl⟩ := kindT_cons hk
   cases h
   exact ⟨t, rfl, by simpa [kindT] using hk, rfl⟩
  ·rw [if_neg hk] at h; cases h
/-- what a step makes of a state -/
def StepR {α : Type} (s s' : StP) (f : List Tok → Res α) (v : α) : Prop := (∀ e, s = .error e → s' = .error e) ∧ ∀ ts, s = .ok ts → s' = sOf (f ts) ∧ ∀ u us, f ts = .ok (u, us) → u = v
theorem StepR.of {α : Type} {s s' : StP} {f : List Tok → Res α} {v : α} (h : s' = sOf (bindS s f)) (hv : ∀ u us, bindS s f = .ok (u, us) → u = v) : StepR s s' f v := by
 subst h
 match s, hv with
 | .error e, hv => exact ⟨fun e' h => (by cases h; rfl), fun ts h => (by cases h)⟩
 | .ok ts, hv => exact ⟨fun e' h => (by cases h), fun ts' h => by cases h; exact ⟨rfl, hv⟩⟩
/-- a selection, step by step -/
theorem select_chain {N : Int} {s s1 s2 s3 s4 : StP} {x : ByteArray} {l : List Mat} {f : Int × Int × Int} {o : Int} (hx : strR (bindS s (wordM N)) = x) (h1 : sOf (bindS s (wordM N)) = s1)
  (h2 : StepR s1 s2 (sMatM N) l) (h3 : StepR s2 s3 (sFunM N) f) (h4 : StepR s3 s4 (sOffM N) o) :
  (∀ e, s4 = .error e → bindS s (fun ts => andR (wordM N ts) fun x ts1 => selectM N x ts1) = .error e) ∧
  ∀ us, s4 = .ok us → bindS s (fun ts => andR (wordM N ts) fun x ts1 => selectM N x ts1) = .ok (.node ⟨1, f.1, f.2.1, o, f.2.2, 0, 0, x, l, []⟩ [], us) ∧ ∃ ts1 ts2 ts3, s1 = .ok ts1 ∧ sMatM N ts1 = .ok (l, ts2) ∧ sFunM N ts2 = .ok (f, ts3) ∧ sOffM N ts3 = .ok (o, us) := by
 match s, hx, h1 with
 | .error e, hx, h1 =>
  have h1' : s1 = .error e := h1.symm
  have a := h4.1 _ (h3.1 _ (h2.1 _ h1'))
  rw [a]
  exact ⟨fun e' h => by cases h; rfl, fun us h => by cases h⟩
 | .ok ts, hx, h1 =>
  show (∀ e, s4 = .error e → andR (wordM N ts) _ = .error e) ∧ ∀ us, s4 = .ok us → andR (wordM N ts) _ = .ok _ ∧ _
  have hx' : strR (wordM N ts) = x := hx
  have h1' : sOf (wordM N ts) = s1 := h1
  cases hw : wordM N ts with
  | error e =>
   rw [hw] at h1'
   have a := h4.1 _ (h3.1 _ (h2.1 _ h1'.symm))
   rw [a]
   exact ⟨fun e' h => by cases h; rfl, fun us h => by cases h⟩
  | ok p =>
   obtain ⟨tx, ts1⟩ := p
   rw [hw] at hx' h1'
   obtain ⟨a2, b2⟩ := h2.2 _ h1'.symm
   show (∀ e, s4 = .error e → selectM N tx ts1 = .error e) ∧ ∀ us, s4 = .ok us → selectM N tx ts1 = .ok _ ∧ _
   unfold selectM
   cases hm : sMatM N ts1 with
   | error e =>
    rw [hm] at a2
    have a := h4.1 _ (h3.1 _ a2)
    rw [a]
    exact ⟨fun e' h => by cases h; rfl, fun us h => by cases h⟩
   | ok p =>
    obtain ⟨l', ts2⟩ := p
    rw [hm] at a2
    obtain rfl := b2 _ _ hm
    obtain ⟨a3, b3⟩ := h3.2 _ a2
    show (∀ e, s4 = .error e → andR (sFunM N ts2) _ = .error e) ∧ ∀ us, s4 = .ok us → andR (sFunM N ts2) _ = .ok _ ∧ _
    cases hf : sFunM N ts2 with
    | error e =>
     rw [hf] at a3
     have a := h4.1 _ a3
     rw [a]
     exact ⟨fun e' h => by cases h; rfl, fun us h => by cases h⟩
    | ok p =>
     obtain ⟨f', ts3⟩ := p
     rw [hf] at a3
     obtain rfl := b3 _ _ hf
     obtain ⟨a4, b4⟩ := h4.2 _ a3
     show (∀ e, s4 = .error e → andR (sOffM N ts3) _ = .error e) ∧ ∀ us, s4 = .ok us → andR (sOffM N ts3) _ = .ok _ ∧ _
     cases ho : sOffM N ts3 with
     | error e =>
      rw [ho] at a4
      rw [a4]
      exact ⟨fun e' h => by cases h; rfl, fun us h => by cases h⟩
     | ok p =>
      obtain ⟨o', ts4⟩ := p
      rw [ho] at a4
      obtain rfl := b4 _ _ ho
      rw [a4]
      refine ⟨fun e' h => (by cases h), fun us h => ?_⟩
      cases h
      have hx'' : bsL tx = x := hx'
      subst hx''
      exact ⟨rfl, ts1, ts2, ts3, h1'.symm, hm, hf, ho⟩
theorem blkE {W : World} {g : Nat} {t : TypeId} {c0 c1 c2 c3 c4 c5 c6 c7 c8 c9 c10 : Value} (h : Blk W g t #[c0, c1, c2, c3, c4, c5, c6, c7, c8, c9, c10]) : W.cell? ⟨g, 0, none⟩ = some c0 ∧ W.cell? ⟨g, 1, none⟩ = some c1 ∧ W.cell? ⟨g, 2, none⟩ = some c2 ∧ W.cell? ⟨g, 3, none⟩ = some c3 ∧ W.cell? ⟨g, 4, none⟩ = some c4 ∧ W.cell? ⟨g, 5, none⟩ = some c5 ∧ W.cell? ⟨g, 6, none⟩ = some c6 ∧ W.cell? ⟨g, 7, none⟩ = some c7 ∧ W.cell? ⟨g, 8, none⟩ = some c8 ∧ W.cell? ⟨g, 9, none⟩ = some c9 ∧ W.cell? ⟨g, 10, none⟩ = some c10 := by
 unfold Blk at h
 refine ⟨?_, ?_, ?_, ?_, ?_, ?_, ?_, ?_, ?_, ?_, ?_⟩ <;> simp [World.cell?, h]
theorem RF.ag {w W W' : World} {g : Nat} {A : Option Addr} {c : Nat} {N : Int} {toks : List Tok} {s : StP} {o : Nat} {cs : Array Value} (h : RF w W g A c N toks s o cs) (ho : Only g W W') : Agree (fun b _ => o < b) W W' := Agree.of_only ho fun b _ hb => by have := h.low; have := h.new; omega
theorem ago {W W' : World} {o : Nat} (ho : Only o W W') : Agree (fun b _ => o < b) W W' := Agree.of_only ho fun b _ hb => by omega
theorem agb {W W' : World} {o : Nat} (hb : Below W.heap.size W W') : Agree (fun b _ => o < b) W W' := Agree.of_below hb
theorem StepR.id {α : Type} {s : StP} {f : List Tok → Res α} {v : α} (h : ∀ ts, s = .ok ts → f ts = .ok (v, ts)) : StepR s s f v :=
 ⟨fun e he => he, fun ts hs => by rw [h ts hs]; exact ⟨hs, fun u us hu => by cases hu; rfl⟩⟩
/-- the arguments of a function -/
def argM (N fn : Int) (ts : List Tok) : Res (Int × Int) := if fn = 0 then .ok ((0, 0), ts) else andR (symbolM N sOpen ts) fun _ ts1 => andR (numberM N 1 4096 ts1) fun w ts2 => andR (if fn = 7 then andR (symbolM N sComma ts2) fun _ ts3 => numberM N 1 w ts3 else .ok (0, ts2)) fun k ts4 => andR (symbolM N sShut ts4) fun _ ts5 => .ok ((w, k), ts5)
def rankM (N fn w : Int) (ts : List Tok) : Res Int := if fn = 7 then andR (symbolM N sComma ts) fun _ ts3 => numberM N 1 w ts3 else .ok (0, ts)
theorem rank_chain {N fn w : Int} {sb sc sd : StP} {k : Int} (h7 : fn = 7) (h1 : sOf (bindS sb (symbolM N sComma)) = sc) (h2 : sOf (bindS sc (numberM N 1 w)) = sd) (hk : intR (bindS sc (numberM N 1 w)) = k) : StepR sb sd (rankM N fn w) k := by
 subst h1 h2 hk
 match sb with
 | .error e => exact ⟨fun e' h => (by cases h; rfl), fun ts h => (by cases h)⟩
 | .ok ts =>
  refine ⟨fun e' h => (by cases h), fun ts' h => ?_⟩
  cases h
  unfold rankM
  rw [if_pos h7]
  have e1 : bindS (.ok ts) (symbolM N sComma) = symbolM N sComma ts := rfl
  rw [e1]
  cases symbolM N sComma ts with
  | error e => exact ⟨rfl, fun u us hu => (by cases hu)⟩
  | ok p =>
   obtain ⟨u, ts1⟩ := p
   show sOf (numberM N 1 w ts1) = sOf (numberM N 1 w ts1) ∧ ∀ u us, numberM N 1 w ts1 = .ok (u, us) → u = intR (numberM N 1 w ts1)
   exact ⟨rfl, fun u us hu => by rw [hu]; rfl⟩
theorem arg_chain {N fn : Int} {s s1 s2 s3 s4 : StP} {w k : Int} (h0 : fn ≠ 0) (h1 : sOf (bindS s (symbolM N sOpen)) = s1) (h2 : sOf (bindS s1 (numberM N 1 4096)) = s2) (hw : intR (bindS s1 (numberM N 1 4096)) = w) (h3 : StepR s2 s3 (rankM N fn w) k) (h4 : sOf (bindS s3 (symbolM N sShut)) = s4) : StepR s s4 (argM N fn) (w, k) := by
 subst h1
 match s with
 | .error e =>
  have h2' : s2 = .error e := h2.symm
  have h3' := h3.1 _ h2'
  subst h3'
  have h4' : s4 = .error e := h4.symm
  exact ⟨fun e' h => (by cases h; exact h4'), fun ts h => (by cases h)⟩
 | .ok ts =>
  refine ⟨fun e' h => (by cases h), fun ts' h => ?_⟩
  cases h
  unfold argM
  rw [if_neg h0]
  have e1 : bindS (.ok ts) (symbolM N sOpen) = symbolM N sOpen ts := rfl
  rw [e1] at h2 hw
  cases hs : symbolM N sOpen ts with
  | error e =>
   rw [hs] at h2 hw
   have h3' := h3.1 _ (show s2 = .error e from h2.symm)
   subst h3'
   exact ⟨h4.symm, fun u us hu => (by cases hu)⟩
  | ok p =>
   obtain ⟨u, ts1⟩ := p
   rw [hs] at h2 hw
   have h2' : sOf (numberM N 1 4096 ts1) = s2 := h2
   have hw' : intR (numberM N 1 4096 ts1) = w := hw
   show s4 = sOf (andR (numberM N 1 4096 ts1) _) ∧ ∀ u us, andR (numberM N 1 4096 ts1) _ = .ok (u, us) → _
   cases hn : numberM N 1 4096 ts1 with
   | error e =>
    rw [hn] at h2'
    have h3' := h3.1 _ (show s2 = .error e from h2'.symm)
    subst h3'
    exact ⟨h4.symm, fun u us hu => (by cases hu)⟩
   | ok p =>
    obtain ⟨w', ts2⟩ := p
    rw [hn] at h2' hw'
    have hw2 : w' = w := hw'
    subst hw2
    obtain ⟨a3, b3⟩ := h3.2 _ (show s2 = .ok ts2 from h2'.symm)
    show s4 = sOf (andR (rankM N fn w' ts2) _) ∧ ∀ u us, andR (rankM N fn w' ts2) _ = .ok (u, us) → _
    cases hr : rankM N fn w' ts2 with
    | error e =>
     rw [hr] at a3
     subst a3
     exact ⟨h4.symm, fun u us hu => (by cases hu)⟩
    | ok p =>
     obtain ⟨k', ts3⟩ := p
     rw [hr] at a3
     obtain rfl := b3 _ _ hr
     subst a3
     have h4' : sOf (symbolM N sShut ts3) = s4 := h4
     show s4 = sOf (andR (symbolM N sShut ts3) _) ∧ ∀ u us, andR (symbolM N sShut ts3) _ = .ok (u, us) → _
     cases hq : symbolM N sShut ts3 with
     | error e => rw [hq] at h4'; exact ⟨h4'.symm, fun u us hu => (by cases hu)⟩
     | ok p => obtain ⟨u, ts4⟩ := p; rw [hq] at h4'; exact ⟨h4'.symm, fun u us hu => (by cases hu; rfl)⟩
theorem fun_chain {N : Int} {s2 s2b s2c s3 : StP} {q : Bool} {f : ByteArray} {fn win k : Int} (hd : ∀ ts, s2 = .ok ts → isT ts 3 sDot = true)
  (hq : ∀ ts, tailS s2 = .ok ts → q = !decide (kindT ts 0 = true ∧ 0 ≤ idxT funcsT (headT ts).text)) (hb : s2b = if q = true then failS (tailS s2) N 2 else tailS s2)
  (hf : strR (bindS s2b (wordM N)) = f) (hc : sOf (bindS s2b (wordM N)) = s2c) (h0 : ∀ e, s2c = .error e → fn = 0) (h1 : ∀ ts, s2c = .ok ts → fn = findI f funL8 0)
  (h3 : StepR s2c s3 (argM N fn) (win, k)) : StepR s2 s3 (sFunM N) (fn, win, k) := by
 match s2, hd, hq, hb with
 | .error e, hd, hq, hb =>
  have hb' : s2b = .error e := by rw [hb]; split <;> rfl
  subst hb'
  have h3' := h3.1 e hc.symm
  exact ⟨fun e' h => (by cases h; exact h3'), fun ts h => (by cases h)⟩
 | .ok ts, hd, hq, hb =>
  refine ⟨fun e' h => (by cases h), fun ts' h => ?_⟩
  cases h
  have hq' := hq ts.tail rfl
  unfold sFunM
  rw [if_pos (hd ts rfl)]
  unfold funM
  by_cases hk : kindT ts.tail 0 = true ∧ 0 ≤ idxT funcsT (headT ts.tail).text
  ·rw [decide_eq_true hk] at hq'
   have hq2 : q = false := hq'
   rw [hq2, if_neg (by simp)] at hb
   have hb' : s2b = .ok ts.tail := hb
   subst hb'
   have hw : bindS (.ok ts.tail) (wordM N) = .ok ((headT ts.tail).text, ts.tail.tail) := by show wordM N ts.tail = _; unfold wordM; rw [if_pos hk.1]
   rw [hw] at hf hc
   have hc' : s2c = .ok ts.tail.tail := hc.symm
   have hf' : f = bsL (headT ts.tail).text := hf.symm
   have hfn := h1 _ hc'
   rw [hf', find_fun] at hfn
   obtain ⟨a3, b3⟩ := h3.2 _ hc'
   rw [if_pos hk, ← hfn]
   unfold argM at a3 b3
   by_cases hz : fn = 0
   ·rw [if_pos hz] at a3 b3 ⊢
    refine ⟨a3, fun u us hu => ?_⟩
    cases hu
    have := b3 (0, 0) _ rfl
    rw [← this, hz]
   ·rw [if_neg hz] at a3 b3 ⊢
    cases h5 : symbolM N sOpen ts.tail.tail with
    | error e => rw [h5] at a3; exact ⟨a3, fun u us hu => (by cases hu)⟩
    | ok p =>
     obtain ⟨u, ts1⟩ := p
     rw [h5] at a3 b3
     have a3' : s3 = sOf (andR (numberM N 1 4096 ts1) fun w ts2 => andR (if fn = 7 then andR (symbolM N sComma ts2) fun _ ts3 => numberM N 1 w ts3 else .ok (0, ts2)) fun k ts4 => andR (symbolM N sShut ts4) fun _ ts5 => .ok ((w, k), ts5)) := a3
     have b3' : ∀ u us, (andR (numberM N 1 4096 ts1) fun w ts2 => andR (if fn = 7 then andR (symbolM N sComma ts2) fun _ ts3 => numberM N 1 w ts3 else .ok (0, ts2)) fun k ts4 => andR (symbolM N sShut ts4) fun _ ts5 => .ok ((w, k), ts5)) = .ok (u, us) → u = (win, k) := b3
     show s3 = sOf (andR (numberM N 1 4096 ts1) fun w ts2 => andR (if fn = 7 then andR (symbolM N sComma ts2) fun _ ts3 => numberM N 1 w ts3 else .ok (0, ts2)) fun k ts4 => andR (symbolM N sShut ts4) fun _ ts5 => .ok ((fn, w, k), ts5)) ∧ ∀ u us, (andR (numberM N 1 4096 ts1) fun w ts2 => andR (if fn = 7 then andR (symbolM N sComma ts2) fun _ ts3 => numberM N 1 w ts3 else .ok (0, ts2)) fun k ts4 => andR (symbolM N sShut ts4) fun _ ts5 => .ok ((fn, w, k), ts5)) = .ok (u, us) → u = (fn, win, k)
     cases h6 : numberM N 1 4096 ts1 with
     | error e => rw [h6] at a3'; exact ⟨a3', fun u us hu => (by cases hu)⟩
     | ok p =>
      obtain ⟨w1, ts2⟩ := p
      rw [h6] at a3' b3'
      have a4 : s3 = sOf (andR (rankM N fn w1 ts2) fun k ts4 => andR (symbolM N sShut ts4) fun _ ts5 => .ok ((w1, k), ts5)) := a3'
      have b4 : ∀ u us, (andR (rankM N fn w1 ts2) fun k ts4 => andR (symbolM N sShut ts4) fun _ ts5 => .ok ((w1, k), ts5)) = .ok (u, us) → u = (win, k) := b3'
      show s3 = sOf (andR (rankM N fn w1 ts2) fun k ts4 => andR (symbolM N sShut ts4) fun _ ts5 => .ok ((fn, w1, k), ts5)) ∧ ∀ u us, (andR (rankM N fn w1 ts2) fun k ts4 => andR (symbolM N sShut ts4) fun _ ts5 => .ok ((fn, w1, k), ts5)) = .ok (u, us) → u = (fn, win, k)
      cases h7 : rankM N fn w1 ts2 with
      | error e => rw [h7] at a4; exact ⟨a4, fun u us hu => (by cases hu)⟩
      | ok p =>
       obtain ⟨k1, ts4⟩ := p
       rw [h7] at a4 b4
       have a5 : s3 = sOf (andR (symbolM N sShut ts4) fun _ ts5 => .ok ((w1, k1), ts5)) := a4
       have b5 : ∀ u us, (andR (symbolM N sShut ts4) fun _ ts5 => .ok ((w1, k1), ts5)) = .ok (u, us) → u = (win, k) := b4
       show s3 = sOf (andR (symbolM N sShut ts4) fun _ ts5 => .ok ((fn, w1, k1), ts5)) ∧ ∀ u us, (andR (symbolM N sShut ts4) fun _ ts5 => .ok ((fn, w1, k1), ts5)) = .ok (u, us) → u = (fn, win, k)
       cases h8 : symbolM N sShut ts4 with
       | error e => rw [h8] at a5; exact ⟨a5, fun u us hu => (by cases hu)⟩
       | ok p =>
        obtain ⟨u, ts5⟩ := p
        rw [h8] at a5 b5
        refine ⟨a5, fun u us hu => ?_⟩
        cases hu
        have := b5 _ _ rfl
        cases this
        rfl
  ·rw [decide_eq_false hk] at hq'
   have hq2 : q = true := hq'
   rw [hq2, if_pos rfl] at hb
   have hb' : s2b = .error (failAt ts.tail N, 2) := hb
   subst hb'
   have h3' := h3.1 _ hc.symm
   rw [if_neg hk]
   exact ⟨h3', fun u us hu => (by cases hu)⟩
theorem off_chain {N : Int} {s s4 : StP} {o : Int} (hd : ∀ ts, s = .ok ts → isT ts 3 sAt = true) (h1 : sOf (bindS (tailS s) (numberM N 0 4096)) = s4) (ho : intR (bindS (tailS s) (numberM N 0 4096)) = o) : StepR s s4 (sOffM N) o := by
 subst h1 ho
 match s, hd with
 | .error e, hd => exact ⟨fun e' h => (by cases h; rfl), fun ts h => (by cases h)⟩
 | .ok ts, hd =>
  refine ⟨fun e' h => (by cases h), fun ts' h => ?_⟩
  cases h
  unfold sOffM
  rw [if_pos (hd ts rfl)]
  show sOf (numberM N 0 4096 ts.tail) = sOf (numberM N 0 4096 ts.tail) ∧ ∀ u us, numberM N 0 4096 ts.tail = .ok (u, us) → u = intR (numberM N 0 4096 ts.tail)
  exact ⟨rfl, fun u us hu => by rw [hu]; rfl⟩
def VTr (B : Nat) (t : Tree) (v : Value) (w : World) : Prop := ∃ mv bv kv, v = .agg (ndC t.d mv bv kv) ∧ TreeAt w (fun b _ => B ≤ b) t (mv, bv, kv)
def GTr (v : Value) : Prop := ∃ (d : Nd) (A1 : Option Addr) (n1 c1 : Nat) (A2 : Option Addr) (n2 c2 : Nat) (A3 : Option Addr) (n3 c3 : Nat), v = .agg (ndC d (.slice A1 n1 c1) (.slice A2 n2 c2) (.slice A3 n3 c3))
end
end Go.Proofs.YthoibeajhdhdhaaGreatDoor
