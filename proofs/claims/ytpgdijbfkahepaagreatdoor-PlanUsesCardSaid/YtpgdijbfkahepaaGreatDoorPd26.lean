/- Contracts, packed: Ks. -/
import Derived.Test.YtpgdijbfkahepaaGreatDoorPd25
set_option linter.unusedVariables false
set_option linter.unusedSimpArgs false
namespace Go.Proofs.YtpgdijbfkahepaaGreatDoor
section
open Go.RowKit FracM
theorem RetX.cases {α : Type} {g : Nat} {en : Int} {w : World} {r : Res α} {V : α → Ending → World → Prop} {e : Ending} {w' : World} (h : RetX g en w r V e w') :
  (∃ f, r = .error f ∧ e = failE f ∧ Only g w w') ∨ (∃ a us, r = .ok (a, us) ∧ PS w' g en us ∧ V a e w' ∧ Only g w w') := by
 unfold RetX at h
 cases r with
 | error f => exact .inl ⟨f, rfl, h.2, h.1⟩
 | ok p => exact .inr ⟨p.1, p.2, rfl, h.2.1, h.2.2, h.1⟩
/-- of the old blocks only two turn -/
structure Only2 (g b : Nat) (w w' : World) : Prop where
 os : w'.os = w.os
 tape : w'.tape = w.tape
 output : w'.output = w.output
 size : w.heap.size ≤ w'.heap.size
 block : ∀ k, k < w.heap.size → k ≠ g → k ≠ b → w'.heap[k]? = w.heap[k]?
theorem Only2.refl (g b : Nat) (w : World) : Only2 g b w w := ⟨rfl, rfl, rfl, Nat.le_refl _, fun _ _ _ _ => rfl⟩
theorem Only2.step {g b : Nat} {w W W' : World} (h : Only2 g b w W) (k : Only g W W') : Only2 g b w W' :=
 ⟨k.os.trans h.os, k.tape.trans h.tape, k.output.trans h.output, Nat.le_trans h.size k.size, fun i hi hn hb => by rw [k.block i (Nat.lt_of_lt_of_le hi h.size) hn, h.block i hi hn hb]⟩
theorem Only2.step2 {g b : Nat} {w W W' : World} (h : Only2 g b w W) (k : Only b W W') : Only2 g b w W' :=
 ⟨k.os.trans h.os, k.tape.trans h.tape, k.output.trans h.output, Nat.le_trans h.size k.size, fun i hi hn hb => by rw [k.block i (Nat.lt_of_lt_of_le hi h.size) hb, h.block i hi hn hb]⟩
theorem Only2.only {g b : Nat} {w0 w W : World} (h : Only2 g b w W) (ho : Only g w0 w) (hb : w0.heap.size ≤ b) : Only g w0 W :=
 ⟨h.os.trans ho.os, h.tape.trans ho.tape, h.output.trans ho.output, Nat.le_trans ho.size h.size, fun i hi hn => by rw [h.block i (Nat.lt_of_lt_of_le hi ho.size) hn (by omega), ho.block i hi hn]⟩
structure FnS (g : Nat) (en : Int) (b : Nat) (w W : World) (ts : List Tok) (d : Nd) (mv bv kv : Value) : Prop where
 ps : PS W g en ts
 only : Only2 g b w W
 blk : Blk W b 35 (ndC d mv bv kv)
 gb : g < b
 wp : WordsP W g
theorem FnS.step {g : Nat} {en : Int} {b : Nat} {w W W' : World} {ts us : List Tok} {d : Nd} {mv bv kv : Value} (h : FnS g en b w W ts d mv bv kv) (ho : Only g W W') (hp : PS W' g en us) : FnS g en b w W' us d mv bv kv :=
 ⟨hp, h.only.step ho, ho.blk h.blk (by have := h.gb; omega), h.gb, h.wp.only ho h.wp.far⟩
theorem FnS.put {g : Nat} {en : Int} {b : Nat} {w W : World} {ts : List Tok} {d d' : Nd} {mv bv kv : Value} (h : FnS g en b w W ts d mv bv kv) (i : Nat) (u : Value) (hd : (ndC d mv bv kv).setIfInBounds i u = ndC d' mv bv kv) : FnS g en b w (W.setCell ⟨b, i, none⟩ u) ts d' mv bv kv :=
 ⟨h.ps.only (h := b) (Only.setCell i u) h.gb, h.only.step2 (Only.setCell i u), hd ▸ h.blk.set i u, h.gb, h.wp.only (Only.setCell i u) (h.wp.far.le (Nat.le_of_lt h.gb))⟩
theorem FnS.drew {g : Nat} {en : Int} {b : Nat} {w W : World} {ts : List Tok} {d : Nd} {mv bv kv : Value} (h : FnS g en b w W ts d mv bv kv) : FnS g en b w W.drew ts d mv bv kv :=
 h.step (Only.of_below (below_drewN _ 1)) h.ps.drew
theorem FnS.c {g : Nat} {en : Int} {b : Nat} {w W : World} {ts : List Tok} {d : Nd} {mv bv kv : Value} (h : FnS g en b w W ts d mv bv kv) : W.cell? ⟨b, 1, none⟩ = some (.int .i64 d.fn) ∧ W.cell? ⟨b, 2, none⟩ = some (.int .i64 d.win) ∧ W.cell? ⟨b, 4, none⟩ = some (.int .i64 d.k) := by
 have := h.blk
 unfold Blk at this
 refine ⟨?_, ?_, ?_⟩ <;> simp [World.cell?, this]
/-- how 'function' ends -/
def RetFn (g : Nat) (en : Int) (b : Nat) (w : World) (R : Res (Int × Int × Int)) (d : Nd) (mv bv kv : Value) (e : Ending) (w' : World) : Prop :=
 match R with
 | .ok (f, us) => e = .returned (.tuple #[]) ∧ FnS g en b w w' us { d with fn := f.1, win := f.2.1, k := f.2.2 } mv bv kv
 | .error f => e = failE f ∧ Only2 g b w w'
theorem RetFn.okk {g : Nat} {en : Int} {b : Nat} {w w' : World} {R : Res (Int × Int × Int)} {d : Nd} {mv bv kv : Value} {us : List Tok} {f win k : Int} (hR : R = .ok ((f, win, k), us)) (h : FnS g en b w w' us { d with fn := f, win := win, k := k } mv bv kv) : RetFn g en b w R d mv bv kv (.returned (.tuple #[])) w' := by
 subst hR; exact ⟨rfl, h⟩
theorem RetFn.err {g : Nat} {en : Int} {b : Nat} {w w' : World} {R : Res (Int × Int × Int)} {d : Nd} {mv bv kv : Value} {f : Int × Int} (hR : R = .error f) (h : Only2 g b w w') : RetFn g en b w R d mv bv kv (failE f) w' := by
 subst hR; exact ⟨rfl, h⟩
theorem fn_word {W : World} {g : Nat} (hw : WordsP W g) (x : List UInt8) : Calls Tryz.prog 92 #[.slice (some ⟨3, 0, none⟩) 8 8, .string (bsL x)] W fun e w' => e = .returned (.int .i64 (idxT funcsT x)) ∧ W = w' := pindex_any _ 8 funcsT rfl (by omega) x W hw.fn
theorem numberM_lt {en lo hi n : Int} {ts us : List Tok} (h : numberM en lo hi ts = .ok (n, us)) : lo ≤ n ∧ n ≤ hi := by
 unfold numberM at h
 split at h
 ·split at h
  ·cases h
  ·cases h; omega
 ·cases h
set_option maxRecDepth 100000 in
set_option maxHeartbeats 4000000 in
theorem pfunction_any (g : Nat) (en : Int) (b : Nat) (ts : List Tok) (w : World) (d : Nd) (mv bv kv : Value) (h : FnS g en b w w ts d mv bv kv) (hd : d.fn = 0 ∧ d.win = 0 ∧ d.k = 0) :
  Calls Tryz.prog 105 #[.pointer (some ⟨g, 0, none⟩), .pointer (some ⟨b, 0, none⟩)] w (RetFn g en b w (funM en ts) d mv bv kv) := by
 obtain ⟨R, HR⟩ : ∃ R, Box (funM en ts = R) := ⟨_, ⟨rfl⟩⟩
 rw [HR.out]
 obtain ⟨dk, df, dw, doff, dkk, dn, dd, dname, dms, dbys⟩ := d
 obtain ⟨rfl, rfl, rfl⟩ := hd
 have HH := Box.mk h
 obtain ⟨c1, c2, c4⟩ := h.c
 have bf := h.blk.frozen
 clear h
 go_enter Tryz.func105, Tryz.ntmps105
 by_cases ht : kindT ts 0 = true
 ·obtain ⟨t, r, rfl⟩ := kindT_cons ht
  obtain ⟨tb, off, c, hb, hlt, hne, h1, h2, t0, t1, t2', t3, hr⟩ := HH.out.ps.cons
  obtain ⟨p0, p1⟩ := hb.c2
  have hz : (0 : Int) < ((r.length + 1 : Nat) : Int) := by omega
  obtain ⟨ix, HX⟩ : ∃ ix, Box (idxT funcsT t.text = ix) := ⟨_, ⟨rfl⟩⟩
  have CI : Box (∀ W, WordsP W g → Calls Tryz.prog 92 #[.slice (some ⟨3, 0, none⟩) 8 8, .string (bsL t.text)] W fun e w' => e = .returned (.int .i64 ix) ∧ W = w') := ⟨fun W h => by have := fn_word h t.text; rw [HX.out] at this; exact this⟩
  clear hb hr h1 h2 hlt hne
  go_upto_region 1 with (go_at_call 90; refine (pkind_any g en 0 _ _ HH.out.ps).mono ?_; rintro e w1 ⟨rfl, rfl⟩; rw [ht])
  go_region_with (go_at_call 92; refine (CI.out _ (by first | exact HH.out.wp | exact HH.out.wp.below (below_drewN _ 1))).mono ?_; rintro e w7 ⟨rfl, rfl⟩)
  have H7 := Box.mk (HH.out.put (d' := ⟨dk, ix, 0, doff, 0, dn, dd, dname, dms, dbys⟩) 1 (.int .i64 ix) rfl).drew
  clear HH c1 c2 c4 bf p0 p1 t0 t1 t2' t3 CI
  generalize (w.setCell ⟨b, 1, none⟩ (.int .i64 ix)).drew = W7 at H7 ⊢
  obtain ⟨c1, c2, c4⟩ := H7.out.c
  have bf := H7.out.blk.frozen
  simp only at c1 c2 c4
  by_cases hix : ix < 0
  ·have hm : funM en (t :: r) = bad en (t :: r) 2 := by unfold funM; rw [if_neg (by rw [show headT (t :: r) = t from rfl, HX.out]; omega)]
   go_wp2_with fail
   refine (pkind_any g en 0 _ _ H7.out.ps).mono ?_
   rintro e w1 ⟨rfl, rfl⟩
   rw [ht]
   go_wp2_with fail
   refine (pfail_any g en 2 _ _ H7.out.ps).mono ?_
   rintro e w1 ⟨rfl, rfl⟩
   go_wp2_with fail
   exact ⟨rfl, RetFn.err (HR.out.symm.trans hm) H7.out.only⟩
  ·have HM : Box (funM en (t :: r) = if ix = 0 then .ok ((0, 0, 0), r) else andR (symbolM en sOpen r) fun _ ts1 => andR (numberM en 1 4096 ts1) fun w ts2 =>
     andR (if ix = 7 then andR (symbolM en sComma ts2) fun _ ts3 => numberM en 1 w ts3 else .ok (0, ts2)) fun k ts4 =>
      andR (symbolM en sShut ts4) fun _ ts5 => .ok ((ix, w, k), ts5)) := ⟨by unfold funM; rw [if_pos (by rw [show headT (t :: r) = t from rfl, HX.out]; exact ⟨ht, by omega⟩), show headT (t :: r) = t from rfl, HX.out]; rfl⟩
   clear HX
   go_wp2_with fail
   refine (pkind_any g en 0 _ _ H7.out.ps).mono ?_
   rintro e w1 ⟨rfl, rfl⟩
   rw [ht]
   go_wp2_with fail
   refine (ptake_any g en t r _ H7.out.ps).mono ?_
   rintro e W8 ⟨rfl, hp, ho⟩
   have H8 := Box.mk (H7.out.step ho hp)
   clear H7 hp ho c1 c2 c4 bf
   obtain ⟨c1, c2, c4⟩ := H8.out.c
   simp only at c1 c2 c4
   by_cases h0 : ix = 0
   ·subst h0
    have hm : funM en (t :: r) = .ok ((0, 0, 0), r) := by rw [HM.out]; rfl
    go_wp2_with fail
    exact bodyPost_ret (results_none rfl _ _ _) rfl (RetFn.okk (HR.out.symm.trans hm) H8.out)
   ·have h0' : (ix == 0) = false := by simpa using h0
    have HM2 : Box (funM en (t :: r) = andR (symbolM en sOpen r) fun _ ts1 => andR (numberM en 1 4096 ts1) fun w ts2 =>
     andR (if ix = 7 then andR (symbolM en sComma ts2) fun _ ts3 => numberM en 1 w ts3 else .ok (0, ts2)) fun k ts4 =>
      andR (symbolM en sShut ts4) fun _ ts5 => .ok ((ix, w, k), ts5)) := ⟨by rw [HM.out, if_neg h0]⟩
    clear HM
    go_wp2_with fail
    refine (psymbol_any g en sOpen _ rfl r _ H8.out.ps).mono ?_
    intro e W9 hx
    rcases hx.cases with ⟨f, hs, rfl, ho⟩ | ⟨a, us, hs, hp, rfl, ho⟩
    ·have hm : funM en (t :: r) = .error f := by rw [HM2.out, hs]; rfl
     go_wp2_with fail
     exact ⟨rfl, RetFn.err (HR.out.symm.trans hm) (H8.out.only.step ho)⟩
    have HM3 : Box (funM en (t :: r) = andR (numberM en 1 4096 us) fun w ts2 =>
     andR (if ix = 7 then andR (symbolM en sComma ts2) fun _ ts3 => numberM en 1 w ts3 else .ok (0, ts2)) fun k ts4 =>
      andR (symbolM en sShut ts4) fun _ ts5 => .ok ((ix, w, k), ts5)) := ⟨by rw [HM2.out, hs]; rfl⟩
    have H9 := Box.mk (H8.out.step ho hp)
    clear HM2 H8 hs hp ho hx c1 c2 c4
    go_wp2_with fail
    refine (pnumber_any g en 1 4096 us _ H9.out.ps).mono ?_
    intro e W10 hx
    rcases hx.cases with ⟨f, hs, rfl, ho⟩ | ⟨n, vs, hs, hp, rfl, ho⟩
    ·have hm : funM en (t :: r) = .error f := by rw [HM3.out, hs]; rfl
     go_wp2_with fail
     exact ⟨rfl, RetFn.err (HR.out.symm.trans hm) (H9.out.only.step ho)⟩
    have HM4 : Box (funM en (t :: r) = andR (if ix = 7 then andR (symbolM en sComma vs) fun _ ts3 => numberM en 1 n ts3 else .ok (0, vs)) fun k ts4 =>
      andR (symbolM en sShut ts4) fun _ ts5 => .ok ((ix, n, k), ts5)) := ⟨by rw [HM3.out, hs]; rfl⟩
    have HN := Box.mk (numberM_lt hs)
    have H10 := Box.mk (H9.out.step ho hp)
    have H11 := Box.mk (H10.out.put (d' := ⟨dk, ix, n, doff, 0, dn, dd, dname, dms, dbys⟩) 2 (.int .i64 n) rfl)
    obtain ⟨c1, c2, c4⟩ := H10.out.c
    simp only at c1 c2 c4
    have bf := H10.out.blk.frozen
    clear HM3 H9 hs hp ho hx
    go_upto_region 8 with (fail)
    clear H10 c1 c2 c4 bf
    generalize W10.setCell ⟨b, 2, none⟩ (.int .i64 n) = W11 at H11 ⊢
    obtain ⟨c1, c2, c4⟩ := H11.out.c
    simp only at c1 c2 c4
    by_cases h7 : ix = 7
    ·subst h7
     have HM5 : Box (funM en (t :: r) = andR (andR (symbolM en sComma vs) fun _ ts3 => numberM en 1 n ts3) fun k ts4 =>
      andR (symbolM en sShut ts4) fun _ ts5 => .ok ((7, n, k), ts5)) := ⟨by rw [HM4.out, if_pos rfl]⟩
     clear HM4
     go_wp2_with fail
     refine (psymbol_any g en sComma _ rfl vs _ H11.out.ps).mono ?_
     intro e W12 hx
     rcases hx.cases with ⟨f, hs, rfl, ho⟩ | ⟨a, us, hs, hp, rfl, ho⟩
     ·have hm : funM en (t :: r) = .error f := by rw [HM5.out, hs]; rfl
      go_wp2_with fail
      exact ⟨rfl, RetFn.err (HR.out.symm.trans hm) (H11.out.only.step ho)⟩
     have HM6 : Box (funM en (t :: r) = andR (numberM en 1 n us) fun k ts4 =>
      andR (symbolM en sShut ts4) fun _ ts5 => .ok ((7, n, k), ts5)) := ⟨by rw [HM5.out, hs]; rfl⟩
     have H12 := Box.mk (H11.out.step ho hp)
     clear HM5 H11 hs hp ho hx c1 c2 c4
     obtain ⟨c1, c2, c4⟩ := H12.out.c
     simp only at c1 c2 c4
     go_wp2_with fail
     refine (pnumber_any g en 1 n us _ H12.out.ps).mono ?_
     intro e W13 hx
     rcases hx.cases with ⟨f, hs, rfl, ho⟩ | ⟨k, ks, hs, hp, rfl, ho⟩
     ·have hm : funM en (t :: r) = .error f := by rw [HM6.out, hs]; rfl
      go_wp2_with fail
      exact ⟨rfl, RetFn.err (HR.out.symm.trans hm) (H12.out.only.step ho)⟩
     have HM7 : Box (funM en (t :: r) = andR (symbolM en sShut ks) fun _ ts5 => .ok ((7, n, k), ts5)) := ⟨by rw [HM6.out, hs]; rfl⟩
     have H13 := Box.mk (H12.out.step ho hp)
     clear c1 c2 c4
     have H14 := Box.mk (H13.out.put (d' := ⟨dk, 7, n, doff, k, dn, dd, dname, dms, dbys⟩) 4 (.int .i64 k) rfl)
     have bf := H13.out.blk.frozen
     obtain ⟨c1, c2, c4⟩ := H13.out.c
     simp only at c1 c2 c4
     clear HM6 H12 hs hp ho hx
     go_upto_region 11 with (fail)
     clear H13 bf c1 c2 c4
     generalize W13.setCell ⟨b, 4, none⟩ (.int .i64 k) = W14 at H14 ⊢
     go_wp2_with fail
     refine (psymbol_any g en sShut _ rfl ks _ H14.out.ps).mono ?_
     intro e W15 hx
     rcases hx.cases with ⟨f, hs, rfl, ho⟩ | ⟨a, xs, hs, hp, rfl, ho⟩
     ·have hm : funM en (t :: r) = .error f := by rw [HM7.out, hs]; rfl
      go_wp2_with fail
      exact ⟨rfl, RetFn.err (HR.out.symm.trans hm) (H14.out.only.step ho)⟩
     have hm : funM en (t :: r) = .ok ((7, n, k), xs) := by rw [HM7.out, hs]; rfl
     go_wp2_with fail
     go_end0
     exact RetFn.okk (HR.out.symm.trans hm) (H14.out.step ho hp)
    ·have h7' : (ix == 7) = false := by simpa using h7
     have HM5 : Box (funM en (t :: r) = andR (symbolM en sShut vs) fun _ ts5 => .ok ((ix, n, 0), ts5)) := ⟨by rw [HM4.out, if_neg h7]; rfl⟩
     clear HM4
     go_wp2_with fail
     refine (psymbol_any g en sShut _ rfl vs _ H11.out.ps).mono ?_
     intro e W15 hx
     rcases hx.cases with ⟨f, hs, rfl, ho⟩ | ⟨a, xs, hs, hp, rfl, ho⟩
     ·have hm : funM en (t :: r) = .error f := by rw [HM5.out, hs]; rfl
      go_wp2_with fail
      exact ⟨rfl, RetFn.err (HR.out.symm.trans hm) (H11.out.only.step ho)⟩
     have hm : funM en (t :: r) = .ok ((ix, n, 0), xs) := by rw [HM5.out, hs]; rfl
     go_wp2_with fail
     go_end0
     exact RetFn.okk (HR.out.symm.trans hm) (H11.out.step ho hp)
 ·have hm : funM en ts = bad en ts 2 := by unfold funM; rw [if_neg (fun h => ht h.1)]
  have ht2 : kindT ts 0 = false := by simpa using ht
  go_wp2_with fail
  refine (pkind_any g en 0 _ _ HH.out.ps).mono ?_
  rintro e w1 ⟨rfl, rfl⟩
  rw [ht2]
  go_wp2_with fail
  refine (pkind_any g en 0 _ _ HH.out.ps).mono ?_
  rintro e w1 ⟨rfl, rfl⟩
  rw [ht2]
  go_wp2_with fail
  refine (pfail_any g en 2 _ _ HH.out.ps).mono ?_
  rintro e w1 ⟨rfl, rfl⟩
  go_wp2_with fail
  exact ⟨rfl, RetFn.err (HR.out.symm.trans hm) (Only2.refl _ _ _)⟩
end
end Go.Proofs.YtpgdijbfkahepaaGreatDoor
