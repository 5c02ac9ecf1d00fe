/- Contracts, packed: Ks Jk Jm. -/
import Derived.Test.YthoibeajhdhdhaaGreatDoorPy18
import Derived.Test.YthoibeajhdhdhaaGreatDoorPy19
import Derived.ProofKit
import Derived.LaidMore
import Derived.LaidLaws
import Derived.OpenShut
import Derived.Stop.Joined
import Derived.HandedShaped
import Derived.Shelf.Vars
set_option linter.unusedVariables false
set_option linter.unusedSimpArgs false
namespace Go.Proofs.YthoibeajhdhdhaaGreatDoor
section
open Go.RowKit FracM
theorem RetX.cases {α : Type} {g : Nat} {en : Int} {w : World} {r : Res α} {V : α → Ending → World → Prop} {e : Ending} {w' : World} (h : RetX g en w r V e w') :
  (∃ f, r = .error f ∧ e = failE f ∧ Only g w w') ∨ (∃ a us, r = .ok (a, us) ∧ PS w' g en us ∧ V a e w' ∧ Only g w w') := by
 unfold RetX at h
 cases r with
 | error f => exact .inl ⟨f, rfl, h.2, h.1⟩
 | ok p => exact .inr ⟨p.1, p.2, rfl, h.2.1, h.2.2, h.1⟩
/-- of the old blocks only two turn -/
structure Only2 (g b : Nat) (w w' : World) : Prop where
 os : w'.os = w.os
 tape : w'.tape = w.tape
 output : w'.output = w.output
 size : w.heap.size ≤ w'.heap.size
 block : ∀ k, k < w.heap.size → k ≠ g → k ≠ b → w'.heap[k]? = w.heap[k]?
theorem Only2.refl (g b : Nat) (w : World) : Only2 g b w w := ⟨rfl, rfl, rfl, Nat.le_refl _, fun _ _ _ _ => rfl⟩
theorem Only2.step {g b : Nat} {w W W' : World} (h : Only2 g b w W) (k : Only g W W') : Only2 g b w W' :=
 ⟨k.os.trans h.os, k.tape.trans h.tape, k.output.trans h.output, Nat.le_trans h.size k.size, fun i hi hn hb => by rw [k.block i (Nat.lt_of_lt_of_le hi h.size) hn, h.block i hi hn hb]⟩
theorem Only2.step2 {g b : Nat} {w W W' : World} (h : Only2 g b w W) (k : Only b W W') : Only2 g b w W' :=
 ⟨k.os.trans h.os, k.tape.trans h.tape, k.output.trans h.output, Nat.le_trans h.size k.size, fun i hi hn hb => by rw [k.block i (Nat.lt_of_lt_of_le hi h.size) hb, h.block i hi hn hb]⟩
theorem Only2.only {g b : Nat} {w0 w W : World} (h : Only2 g b w W) (ho : Only g w0 w) (hb : w0.heap.size ≤ b) : Only g w0 W :=
 ⟨h.os.trans ho.os, h.tape.trans ho.tape, h.output.trans ho.output, Nat.le_trans ho.size h.size, fun i hi hn => by rw [h.block i (Nat.lt_of_lt_of_le hi ho.size) hn (by omega), ho.block i hi hn]⟩
structure FnS (g : Nat) (en : Int) (b : Nat) (w W : World) (ts : List Tok) (d : Nd) (mv bv kv : Value) : Prop where
 ps : PS W g en ts
 only : Only2 g b w W
 blk : Blk W b 29 (ndC d mv bv kv)
 gb : g < b
 wp : WordsP W g
theorem FnS.step {g : Nat} {en : Int} {b : Nat} {w W W' : World} {ts us : List Tok} {d : Nd} {mv bv kv : Value} (h : FnS g en b w W ts d mv bv kv) (ho : Only g W W') (hp : PS W' g en us) : FnS g en b w W' us d mv bv kv :=
 ⟨hp, h.only.step ho, ho.blk h.blk (by have := h.gb; omega), h.gb, h.wp.only ho h.wp.far⟩
theorem FnS.put {g : Nat} {en : Int} {b : Nat} {w W : World} {ts : List Tok} {d d' : Nd} {mv bv kv : Value} (h : FnS g en b w W ts d mv bv kv) (i : Nat) (u : Value) (hd : (ndC d mv bv kv).setIfInBounds i u = ndC d' mv bv kv) : FnS g en b w (W.setCell ⟨b, i, none⟩ u) ts d' mv bv kv :=
 ⟨h.ps.only (h := b) (Only.setCell i u) h.gb, h.only.step2 (Only.setCell i u), hd ▸ h.blk.set i u, h.gb, h.wp.only (Only.setCell i u) (h.wp.far.le (Nat.le_of_lt h.gb))⟩
theorem FnS.drew {g : Nat} {en : Int} {b : Nat} {w W : World} {ts : List Tok} {d : Nd} {mv bv kv : Value} (h : FnS g en b w W ts d mv bv kv) : FnS g en b w W.drew ts d mv bv kv :=
 h.step (Only.of_below (below_drewN _ 1)) h.ps.drew
theorem FnS.c {g : Nat} {en : Int} {b : Nat} {w W : World} {ts : List Tok} {d : Nd} {mv bv kv : Value} (h : FnS g en b w W ts d mv bv kv) : W.cell? ⟨b, 1, none⟩ = some (.int .i64 d.fn) ∧ W.cell? ⟨b, 2, none⟩ = some (.int .i64 d.win) ∧ W.cell? ⟨b, 4, none⟩ = some (.int .i64 d.k) := by
 have := h.blk
 unfold Blk at this
 refine ⟨?_, ?_, ?_⟩ <;> simp [World.cell?, this]
/-- how 'function' ends -/
def RetFn (g : Nat) (en : Int) (b : Nat) (w : World) (R : Res (Int × Int × Int)) (d : Nd) (mv bv kv : Value) (e : Ending) (w' : World) : Prop :=
 match R with
 | .ok (f, us) => e = .returned (.tuple #[]) ∧ FnS g en b w w' us { d with fn := f.1, win := f.2.1, k := f.2.2 } mv bv kv
 | .error f => e = failE f ∧ Only2 g b w w'
theorem RetFn.okk {g : Nat} {en : Int} {b : Nat} {w w' : World} {R : Res (Int × Int × Int)} {d : Nd} {mv bv kv : Value} {us : List Tok} {f win k : Int} (hR : R = .ok ((f, win, k), us)) (h : FnS g en b w w' us { d with fn := f, win := win, k := k } mv bv kv) : RetFn g en b w R d mv bv kv (.returned (.tuple #[])) w' := by
 subst hR; exact ⟨rfl, h⟩
theorem RetFn.err {g : Nat} {en : Int} {b : Nat} {w w' : World} {R : Res (Int × Int × Int)} {d : Nd} {mv bv kv : Value} {f : Int × Int} (hR : R = .error f) (h : Only2 g b w w') : RetFn g en b w R d mv bv kv (failE f) w' := by
 subst hR; exact ⟨rfl, h⟩
theorem fn_word {W : World} {g : Nat} (hw : WordsP W g) (x : List UInt8) : Calls Tryz.prog 131 #[.slice (some ⟨3, 0, none⟩) 8 8, .string (bsL x)] W fun e w' => e = .returned (.int .i64 (idxT funcsT x)) ∧ W = w' := pindex_any _ 8 funcsT rfl (by omega) x W hw.fn
theorem numberM_lt {en lo hi n : Int} {ts us : List Tok} (h : numberM en lo hi ts = .ok (n, us)) : lo ≤ n ∧ n ≤ hi := by
 unfold numberM at h
 split at h
 ·split at h
  ·cases h
  ·cases h; omega
 ·cases h
set_option maxRecDepth 100000 in
set_option maxHeartbeats 4000000 in
theorem pfunction_any (g : Nat) (en : Int) (b : Nat) (ts : List Tok) (w : World) (d : Nd) (mv bv kv : Value) (h : FnS g en b w w ts d mv bv kv) (hd : d.fn = 0 ∧ d.win = 0 ∧ d.k = 0) :
  Calls Tryz.prog 156 #[.pointer (some ⟨g, 0, none⟩), .pointer (some ⟨b, 0, none⟩)] w (RetFn g en b w (funM en ts) d mv bv kv) := by
 obtain ⟨R, HR⟩ : ∃ R, Box (funM en ts = R) := ⟨_, ⟨rfl⟩⟩
 rw [HR.out]
 obtain ⟨dk, df, dw, doff, dkk, dn, dd, dname, dms, dbys⟩ := d
 obtain ⟨rfl, rfl, rfl⟩ := hd
 have HH := Box.mk h
 obtain ⟨c1, c2, c4⟩ := h.c
 have bf := h.blk.frozen
 clear h
 go_enter Tryz.func156, Tryz.ntmps156
 by_cases ht : kindT ts 0 = true
 ·obtain ⟨t, r, rfl⟩ := kindT_cons ht
  obtain ⟨tb, off, c, hb, hlt, hne, h1, h2, t0, t1, t2', t3, hr⟩ := HH.out.ps.cons
  obtain ⟨p0, p1⟩ := hb.c2
  have hz : (0 : Int) < ((r.length + 1 : Nat) : Int) := by omega
  obtain ⟨ix, HX⟩ : ∃ ix, Box (idxT funcsT t.text = ix) := ⟨_, ⟨rfl⟩⟩
  have CI : Box (∀ W, WordsP W g → Calls Tryz.prog 131 #[.slice (some ⟨3, 0, none⟩) 8 8, .string (bsL t.text)] W fun e w' => e = .returned (.int .i64 ix) ∧ W = w') := ⟨fun W h => by have := fn_word h t.text; rw [HX.out] at this; exact this⟩
  clear hb hr h1 h2 hlt hne
  go_upto_region 1 with (go_at_call 139; refine (pkind_any g en 0 _ _ HH.out.ps).mono ?_; rintro e w1 ⟨rfl, rfl⟩; rw [ht])
  go_region_with (go_at_call 131; refine (CI.out _ (by first | exact HH.out.wp | exact HH.out.wp.below (below_drewN _ 1))).mono ?_; rintro e w7 ⟨rfl, rfl⟩)
  have H7 := Box.mk (HH.out.put (d' := ⟨dk, ix, 0, doff, 0, dn, dd, dname, dms, dbys⟩) 1 (.int .i64 ix) rfl).drew
  clear HH c1 c2 c4 bf p0 p1 t0 t1 t2' t3 CI
  generalize (w.setCell ⟨b, 1, none⟩ (.int .i64 ix)).drew = W7 at H7 ⊢
  obtain ⟨c1, c2, c4⟩ := H7.out.c
  have bf := H7.out.blk.frozen
  simp only at c1 c2 c4
  by_cases hix : ix < 0
  ·have hm : funM en (t :: r) = bad en (t :: r) 2 := by unfold funM; rw [if_neg (by rw [show headT (t :: r) = t from rfl, HX.out]; omega)]
   go_wp2_with fail
   refine (pkind_any g en 0 _ _ H7.out.ps).mono ?_
   rintro e w1 ⟨rfl, rfl⟩
   rw [ht]
   go_wp2_with fail
   refine (pfail_any g en 2 _ _ H7.out.ps).mono ?_
   rintro e w1 ⟨rfl, rfl⟩
   go_wp2_with fail
   exact ⟨rfl, RetFn.err (HR.out.symm.trans hm) H7.out.only⟩
  ·have HM : Box (funM en (t :: r) = if ix = 0 then .ok ((0, 0, 0), r) else andR (symbolM en sOpen r) fun _ ts1 => andR (numberM en 1 4096 ts1) fun w ts2 =>
     andR (if ix = 7 then andR (symbolM en sComma ts2) fun _ ts3 => numberM en 1 w ts3 else .ok (0, ts2)) fun k ts4 =>
      andR (symbolM en sShut ts4) fun _ ts5 => .ok ((ix, w, k), ts5)) := ⟨by unfold funM; rw [if_pos (by rw [show headT (t :: r) = t from rfl, HX.out]; exact ⟨ht, by omega⟩), show headT (t :: r) = t from rfl, HX.out]; rfl⟩
   clear HX
   go_wp2_with fail
   refine (pkind_any g en 0 _ _ H7.out.ps).mono ?_
   rintro e w1 ⟨rfl, rfl⟩
   rw [ht]
   go_wp2_with fail
   refine (ptake_any g en t r _ H7.out.ps).mono ?_
   rintro e W8 ⟨rfl, hp, ho⟩
   have H8 := Box.mk (H7.out.step ho hp)
   clear H7 hp ho c1 c2 c4 bf
   obtain ⟨c1, c2, c4⟩ := H8.out.c
   simp only at c1 c2 c4
   by_cases h0 : ix = 0
   ·subst h0
    have hm : funM en (t :: r) = .ok ((0, 0, 0), r) := by rw [HM.out]; rfl
    go_wp2_with fail
    exact bodyPost_ret (results_none rfl _ _ _) rfl (RetFn.okk (HR.out.symm.trans hm) H8.out)
   ·have h0' : (ix == 0) = false := by simpa using h0
    have HM2 : Box (funM en (t :: r) = andR (symbolM en sOpen r) fun _ ts1 => andR (numberM en 1 4096 ts1) fun w ts2 =>
     andR (if ix = 7 then andR (symbolM en sComma ts2) fun _ ts3 => numberM en 1 w ts3 else .ok (0, ts2)) fun k ts4 =>
      andR (symbolM en sShut ts4) fun _ ts5 => .ok ((ix, w, k), ts5)) := ⟨by rw [HM.out, if_neg h0]⟩
    clear HM
    go_wp2_with fail
    refine (psymbol_any g en sOpen _ rfl r _ H8.out.ps).mono ?_
    intro e W9 hx
    rcases hx.cases with ⟨f, hs, rfl, ho⟩ | ⟨a, us, hs, hp, rfl, ho⟩
    ·have hm : funM en (t :: r) = .error f := by rw [HM2.out, hs]; rfl
     go_wp2_with fail
     exact ⟨rfl, RetFn.err (HR.out.symm.trans hm) (H8.out.only.step ho)⟩
    have HM3 : Box (funM en (t :: r) = andR (numberM en 1 4096 us) fun w ts2 =>
     andR (if ix = 7 then andR (symbolM en sComma ts2) fun _ ts3 => numberM en 1 w ts3 else .ok (0, ts2)) fun k ts4 =>
      andR (symbolM en sShut ts4) fun _ ts5 => .ok ((ix, w, k), ts5)) := ⟨by rw [HM2.out, hs]; rfl⟩
    have H9 := Box.mk (H8.out.step ho hp)
    clear HM2 H8 hs hp ho hx c1 c2 c4
    go_wp2_with fail
    refine (pnumber_any g en 1 4096 us _ H9.out.ps).mono ?_
    intro e W10 hx
    rcases hx.cases with ⟨f, hs, rfl, ho⟩ | ⟨n, vs, hs, hp, rfl, ho⟩
    ·have hm : funM en (t :: r) = .error f := by rw [HM3.out, hs]; rfl
     go_wp2_with fail
     exact ⟨rfl, RetFn.err (HR.out.symm.trans hm) (H9.out.only.step ho)⟩
    have HM4 : Box (funM en (t :: r) = andR (if ix = 7 then andR (symbolM en sComma vs) fun _ ts3 => numberM en 1 n ts3 else .ok (0, vs)) fun k ts4 =>
      andR (symbolM en sShut ts4) fun _ ts5 => .ok ((ix, n, k), ts5)) := ⟨by rw [HM3.out, hs]; rfl⟩
    have HN := Box.mk (numberM_lt hs)
    have H10 := Box.mk (H9.out.step ho hp)
    have H11 := Box.mk (H10.out.put (d' := ⟨dk, ix, n, doff, 0, dn, dd, dname, dms, dbys⟩) 2 (.int .i64 n) rfl)
    obtain ⟨c1, c2, c4⟩ := H10.out.c
    simp only at c1 c2 c4
    have bf := H10.out.blk.frozen
    clear HM3 H9 hs hp ho hx
    go_upto_region 8 with (fail)
    clear H10 c1 c2 c4 bf
    generalize W10.setCell ⟨b, 2, none⟩ (.int .i64 n) = W11 at H11 ⊢
    obtain ⟨c1, c2, c4⟩ := H11.out.c
    simp only at c1 c2 c4
    by_cases h7 : ix = 7
    ·subst h7
     have HM5 : Box (funM en (t :: r) = andR (andR (symbolM en sComma vs) fun _ ts3 => numberM en 1 n ts3) fun k ts4 =>
      andR (symbolM en sShut ts4) fun _ ts5 => .ok ((7, n, k), ts5)) := ⟨by rw [HM4.out, if_pos rfl]⟩
     clear HM4
     go_wp2_with fail
     refine (psymbol_any g en sComma _ rfl vs _ H11.out.ps).mono ?_
     intro e W12 hx
     rcases hx.cases with ⟨f, hs, rfl, ho⟩ | ⟨a, us, hs, hp, rfl, ho⟩
     ·have hm : funM en (t :: r) = .error f := by rw [HM5.out, hs]; rfl
      go_wp2_with fail
      exact ⟨rfl, RetFn.err (HR.out.symm.trans hm) (H11.out.only.step ho)⟩
     have HM6 : Box (funM en (t :: r) = andR (numberM en 1 n us) fun k ts4 =>
      andR (symbolM en sShut ts4) fun _ ts5 => .ok ((7, n, k), ts5)) := ⟨by rw [HM5.out, hs]; rfl⟩
     have H12 := Box.mk (H11.out.step ho hp)
     clear HM5 H11 hs hp ho hx c1 c2 c4
     obtain ⟨c1, c2, c4⟩ := H12.out.c
     simp only at c1 c2 c4
     go_wp2_with fail
     refine (pnumber_any g en 1 n us _ H12.out.ps).mono ?_
     intro e W13 hx
     rcases hx.cases with ⟨f, hs, rfl, ho⟩ | ⟨k, ks, hs, hp, rfl, ho⟩
     ·have hm : funM en (t :: r) = .error f := by rw [HM6.out, hs]; rfl
      go_wp2_with fail
      exact ⟨rfl, RetFn.err (HR.out.symm.trans hm) (H12.out.only.step ho)⟩
     have HM7 : Box (funM en (t :: r) = andR (symbolM en sShut ks) fun _ ts5 => .ok ((7, n, k), ts5)) := ⟨by rw [HM6.out, hs]; rfl⟩
     have H13 := Box.mk (H12.out.step ho hp)
     clear c1 c2 c4
     have H14 := Box.mk (H13.out.put (d' := ⟨dk, 7, n, doff, k, dn, dd, dname, dms, dbys⟩) 4 (.int .i64 k) rfl)
     have bf := H13.out.blk.frozen
     obtain ⟨c1, c2, c4⟩ := H13.out.c
     simp only at c1 c2 c4
     clear HM6 H12 hs hp ho hx
     go_upto_region 11 with (fail)
     clear H13 bf c1 c2 c4
     generalize W13.setCell ⟨b, 4, none⟩ (.int .i64 k) = W14 at H14 ⊢
     go_wp2_with fail
     refine (psymbol_any g en sShut _ rfl ks _ H14.out.ps).mono ?_
     intro e W15 hx
     rcases hx.cases with ⟨f, hs, rfl, ho⟩ | ⟨a, xs, hs, hp, rfl, ho⟩
     ·have hm : funM en (t :: r) = .error f := by rw [HM7.out, hs]; rfl
      go_wp2_with fail
      exact ⟨rfl, RetFn.err (HR.out.symm.trans hm) (H14.out.only.step ho)⟩
     have hm : funM en (t :: r) = .ok ((7, n, k), xs) := by rw [HM7.out, hs]; rfl
     go_wp2_with fail
     go_end0
     exact RetFn.okk (HR.out.symm.trans hm) (H14.out.step ho hp)
    ·have h7' : (ix == 7) = false := by simpa using h7
     have HM5 : Box (funM en (t :: r) = andR (symbolM en sShut vs) fun _ ts5 => .ok ((ix, n, 0), ts5)) := ⟨by rw [HM4.out, if_neg h7]; rfl⟩
     clear HM4
     go_wp2_with fail
     refine (psymbol_any g en sShut _ rfl vs _ H11.out.ps).mono ?_
     intro e W15 hx
     rcases hx.cases with ⟨f, hs, rfl, ho⟩ | ⟨a, xs, hs, hp, rfl, ho⟩
     ·have hm : funM en (t :: r) = .error f := by rw [HM5.out, hs]; rfl
      go_wp2_with fail
      exact ⟨rfl, RetFn.err (HR.out.symm.trans hm) (H11.out.only.step ho)⟩
     have hm : funM en (t :: r) = .ok ((ix, n, 0), xs) := by rw [HM5.out, hs]; rfl
     go_wp2_with fail
     go_end0
     exact RetFn.okk (HR.out.symm.trans hm) (H11.out.step ho hp)
 ·have hm : funM en ts = bad en ts 2 := by unfold funM; rw [if_neg (fun h => ht h.1)]
  have ht2 : kindT ts 0 = false := by simpa using ht
  go_wp2_with fail
  refine (pkind_any g en 0 _ _ HH.out.ps).mono ?_
  rintro e w1 ⟨rfl, rfl⟩
  rw [ht2]
  go_wp2_with fail
  refine (pkind_any g en 0 _ _ HH.out.ps).mono ?_
  rintro e w1 ⟨rfl, rfl⟩
  rw [ht2]
  go_wp2_with fail
  refine (pfail_any g en 2 _ _ HH.out.ps).mono ?_
  rintro e w1 ⟨rfl, rfl⟩
  go_wp2_with fail
  exact ⟨rfl, RetFn.err (HR.out.symm.trans hm) (Only2.refl _ _ _)⟩
end
section
open Go.RowKit FracM
def ns6 : List ByteArray := [⟨#[99, 112, 117]⟩, ⟨#[109, 101, 109]⟩, ⟨#[97]⟩, ⟨#[108, 97, 115, 116]⟩, ⟨#[98, 121]⟩, ⟨#[120, 95, 49]⟩]
theorem ns6_ok : NamesOk ns6 := by unfold NamesOk; decide +kernel
set_option maxHeartbeats 4000000 in
set_option maxRecDepth 100000 in
theorem expr0_any (lv : Value) (l : List Int) (w : World) (h1 : IntsP w lv l) :
  Calls Tryz.prog 10 #[lv] w (RetT2 ns6 4096 w) := by
 obtain ⟨A1, c1, rfl, hlen⟩ := h1.1.form
 have HI0 := Box.mk h1
 clear h1
 go_enter Tryz.func10, Tryz.ntmps10
 have HP : Box (Blk ((w.alloc (.cells zeroC 29)).alloc (.cells #[.string ⟨#[99, 112, 117]⟩, .string ⟨#[109, 101, 109]⟩, .string ⟨#[97]⟩, .string ⟨#[108, 97, 115, 116]⟩, .string ⟨#[98, 121]⟩, .string ⟨#[120, 95, 49]⟩] 9)) w.heap.size 29 zeroC ∧ Below w.heap.size w ((w.alloc (.cells zeroC 29)).alloc (.cells #[.string ⟨#[99, 112, 117]⟩, .string ⟨#[109, 101, 109]⟩, .string ⟨#[97]⟩, .string ⟨#[108, 97, 115, 116]⟩, .string ⟨#[98, 121]⟩, .string ⟨#[120, 95, 49]⟩] 9))) := ⟨(Blk.new _ _ _).alloc _, bel2 _ _ _⟩
 have HI : Box (IntsP ((w.alloc (.cells zeroC 29)).alloc (.cells #[.string ⟨#[99, 112, 117]⟩, .string ⟨#[109, 101, 109]⟩, .string ⟨#[97]⟩, .string ⟨#[108, 97, 115, 116]⟩, .string ⟨#[98, 121]⟩, .string ⟨#[120, 95, 49]⟩] 9)) (.slice A1 l.length c1) l) := ⟨IntsP.belo HI0.out (bel2 _ _ _)⟩
 have HS : Box (StrsL ((w.alloc (.cells zeroC 29)).alloc (.cells #[.string ⟨#[99, 112, 117]⟩, .string ⟨#[109, 101, 109]⟩, .string ⟨#[97]⟩, .string ⟨#[108, 97, 115, 116]⟩, .string ⟨#[98, 121]⟩, .string ⟨#[120, 95, 49]⟩] 9)) (.slice (some ⟨w.heap.size + 1, 0, none⟩) 6 6) ns6) := ⟨SeqP.of_blk (n := 6) (size := 1) (Blk.newAt _ _ (by simp)) rfl (by omega) (by simp)⟩
 go_wp2_with fail
 (with_reducible refine (make_any (.slice A1 l.length c1) (.slice (some ⟨w.heap.size + 1, 0, none⟩) 6 6) l ns6 4096 _ HI.out HS.out ns6_ok (by decide) (by decide) (by omega) (by omega)).mono ?_)
 rintro e w2 ⟨t, s, rfl, ht8, hgd8, hd8, hn8, ho8⟩
 obtain ⟨d, ks⟩ := t
 obtain ⟨mv, bv, kv⟩ := s
 obtain ⟨A1, n1, rfl, -⟩ := ht8.form.1
 obtain ⟨A2, n2, rfl, -⟩ := ht8.form.2.1
 obtain ⟨A3, n3, rfl, -⟩ := ht8.form.2.2
 simp only [Tree.d]
 have HR := Box.mk (HP.out.1.below ho8)
 have HT := Box.mk (ht8.lower (B' := w.heap.size + 1) (by simp))
 have HO := Box.mk (HP.out.2.trans (ho8.mono HP.out.2.size))
 have HD := Box.mk (And.intro hgd8 (And.intro hd8 hn8))
 clear ht8 hgd8 hd8 hn8 ho8 HP
 obtain ⟨z0, z1, z2, z3, z4, z5, z6, z7, z8, z9, z10⟩ := blk11 HR.out
 simp only [Nat.zero_add] at z1 z2 z3 z4 z5 z6 z7 z8 z9 z10
 have zf := HR.out.frozen
 go_wp2_with fail
 have HF : Box (Blk (put11 w2 w.heap.size (.int .i64 d.kind) (.int .i64 d.fn) (.int .i64 d.win) (.int .i64 d.off) (.int .i64 d.k) (.int .i64 d.num) (.int .i64 d.den) (.string d.name) (.slice A1 d.ms.length n1) (.slice A2 d.bys.length n2) (.slice A3 ks.length n3)) w.heap.size 29 (ndC d (.slice A1 d.ms.length n1) (.slice A2 d.bys.length n2) (.slice A3 ks.length n3))) := ⟨put11_blk HR.out⟩
 have HA : Box (Below w.heap.size w (put11 w2 w.heap.size (.int .i64 d.kind) (.int .i64 d.fn) (.int .i64 d.win) (.int .i64 d.off) (.int .i64 d.k) (.int .i64 d.num) (.int .i64 d.den) (.string d.name) (.slice A1 d.ms.length n1) (.slice A2 d.bys.length n2) (.slice A3 ks.length n3)) ∧ TreeF (put11 w2 w.heap.size (.int .i64 d.kind) (.int .i64 d.fn) (.int .i64 d.win) (.int .i64 d.off) (.int .i64 d.k) (.int .i64 d.num) (.int .i64 d.den) (.string d.name) (.slice A1 d.ms.length n1) (.slice A2 d.bys.length n2) (.slice A3 ks.length n3)) (w.heap.size + 1) (.node d ks) (.slice A1 d.ms.length n1, .slice A2 d.bys.length n2, .slice A3 ks.length n3)) := ⟨HO.out.trans (put11_below (Nat.le_refl _) ..), HT.out.far (put11_only ..) (by omega)⟩
 show bodyPost _ _ _ _ _ (put11 w2 w.heap.size (.int .i64 d.kind) (.int .i64 d.fn) (.int .i64 d.win) (.int .i64 d.off) (.int .i64 d.k) (.int .i64 d.num) (.int .i64 d.den) (.string d.name) (.slice A1 d.ms.length n1) (.slice A2 d.bys.length n2) (.slice A3 ks.length n3))
 generalize (put11 w2 w.heap.size (.int .i64 d.kind) (.int .i64 d.fn) (.int .i64 d.win) (.int .i64 d.off) (.int .i64 d.k) (.int .i64 d.num) (.int .i64 d.den) (.string d.name) (.slice A1 d.ms.length n1) (.slice A2 d.bys.length n2) (.slice A3 ks.length n3)) = WF at HF HA ⊢
 clear HR HT HO z0 z1 z2 z3 z4 z5 z6 z7 z8 z9 z10 zf
 obtain ⟨e0, e1, e2, e3, e4, e5, e6, e7, e8, e9, e10⟩ := blk11 HF.out
 simp only [Nat.zero_add] at e1 e2 e3 e4 e5 e6 e7 e8 e9 e10
 have ef := HF.out.frozen
 refine bodyPost_ret (v := .agg (ndC d (.slice A1 d.ms.length n1) (.slice A2 d.bys.length n2) (.slice A3 ks.length n3))) (by simp [results, Tryz.results10, go_sem, e0, e1, e2, e3, e4, e5, e6, e7, e8, e9, e10, ef]) rfl ?_
 obtain ⟨y1, y2, y3⟩ := HD.out
 exact ⟨.node d ks, (.slice A1 d.ms.length n1, .slice A2 d.bys.length n2, .slice A3 ks.length n3), rfl, HA.out.2.lower (by omega), y1, y2, y3, HA.out.1⟩
end
section
open Go.ChangeShapes Go.WideShapes Go.ChangeAt Go.RowKit
theorem own : ownKnob Tryz.prog.godebug = none := by kernel_rfl
theorem laidOut : laidOutB Tryz.prog = true := by kernel_rfl
/-- the wrap, with the listed variables and the world's shape both handed on -/
theorem handed_both {H : Type} {enc : TypeId × Value → H} {a : Assume} {C : Checked} {os : Os} {f : FuncId} {fn : Func} {s : ChangeSpec} {conds : List PathCond} {apart fresh handsOn again : Bool} {X : World → Array Value → Prop}
  (hX : ∀ (w w' : World) (args : Array Value), w.heap = w'.heap → X w args → X w' args)
  (own : ownKnob C.prog.godebug = none) (started : os.Started) (noInit : C.prog.inits.idxOf? f = none) (hfn : C.prog.funcs[f]? = some fn)
  (witness : ∃ (w : World) (tape : Tape) (i : Input), w.os = os ∧ (w.forCall tape i).Shaped C.prog ∧ i.vars = [] ∧ Input.okWide C.prog (w.forCall tape i) .any w.heap.size f i ∧
   ((s.pre enc C.prog fn conds apart (w.forCall tape i).memory i.args ∧ X (w.forCall tape i).memory i.args) ∧ sizedMet enc C.prog fn (OpenSpec.ofChange s) apart (w.forCall tape i).memory i.args) ∧ a.holds C.prog (lone (Frame.enter C.prog f i.args .normal) [] (w.forCall tape i)))
  (contract : ∀ (W : World) (base : Nat) (args : Array Value) (ds gs : List (DataW H)) (before : List MemPlace),
   (∀ (j : Nat) t v, fn.params[j]? = some t → args[j]? = some v → Value.okWide C.prog W .any base t v) →
   DataW.Whole enc C.prog fn.params.toList s.vars apart W args.toList ds gs before →
   X W args → W.ShapedOpen C.prog →
   Calls C.prog f args W fun e W' => ∃ v, e = .returned v ∧ s.post enc C.prog fn apart fresh handsOn again W args v W') :
  ReturnsInHanded a C os f .any (fun w args => (s.pre enc C.prog fn conds apart w args ∧ X w args) ∧ sizedMet enc C.prog fn (OpenSpec.ofChange s) apart w args) (s.post enc C.prog fn apart fresh handsOn again) := by
 refine returnsInHanded_of_calls own started noInit witness ?_
 intro w tape i _ hsh _ hok hpre hholds
 obtain ⟨_, _, _, fn', hfn', _, _, _, _, hval⟩ := hok
 have e : fn' = fn := Option.some.inj (hfn'.symm.trans hfn)
 subst e
 obtain ⟨⟨⟨ds, gs, before, hw, hc⟩, hx⟩, hz⟩ := hpre
 have hw' := DataW.Whole.of_heap (w' := w.forCall tape i) (by rfl) hw
 refine (contract (w.forCall tape i) w.heap.size i.args ds gs before hval hw' (hX _ _ _ (by rfl) hx) hsh).mono fun e W' ⟨v, he, hp⟩ => ?_
 subst he
 exact ChangeSpec.post_blind hp
def laid5 : List (String × DataW Unit) := [("math/bits.deBruijn32tab", Rows.laid_math_bits_deBruijn32tab), ("math/bits.deBruijn64tab", Rows.laid_math_bits_deBruijn64tab), ("internal/strconv.uint64pow10", Rows.laid_internal_strconv_uint64pow10), ("intervalmon/parser.groupWords", Rows.laid_intervalmon_parser_groupWords), ("intervalmon/parser.functionWords", Rows.laid_intervalmon_parser_functionWords), ("intervalmon/parser.matchSymbols", Rows.laid_intervalmon_parser_matchSymbols), ("intervalmon/parser.operators", Rows.laid_intervalmon_parser_operators)]
theorem door_met (os : Os) (args : Array Value) : laidMetH Tryz.prog laid5 ((World.doorLaid Tryz.prog 400 os).forCall (fun _ _ => 0) ⟨#[], args, []⟩).memory :=
 laidMetH_of_parts3 (fuel := 8) (laidMet_of_run' 8 (by kernel_rfl) (by kernel_rfl)) (by kernel_rfl) (by kernel_rfl)
theorem gGrp : Tryz.prog.globalNamed "intervalmon/parser.groupWords" = some 1 := by kernel_rfl
theorem tGrp : (Tryz.prog.globals[1]?).map (·.type) = some 127 := by kernel_rfl
theorem gFun : Tryz.prog.globalNamed "intervalmon/parser.functionWords" = some 3 := by kernel_rfl
theorem tFun : (Tryz.prog.globals[3]?).map (·.type) = some 132 := by kernel_rfl
theorem gMat : Tryz.prog.globalNamed "intervalmon/parser.matchSymbols" = some 2 := by kernel_rfl
theorem tMat : (Tryz.prog.globals[2]?).map (·.type) = some 131 := by kernel_rfl
theorem gOpr : Tryz.prog.globalNamed "intervalmon/parser.operators" = some 0 := by kernel_rfl
theorem tOpr : (Tryz.prog.globals[0]?).map (·.type) = some 119 := by kernel_rfl
theorem gTab : Tryz.prog.globalNamed "internal/strconv.uint64pow10" = some 5 := by kernel_rfl
theorem tTab : (Tryz.prog.globals[5]?).map (·.type) = some 160 := by kernel_rfl
theorem cU64 : Tryz.prog.cellsOf 144 = 1 := by kernel_rfl
theorem cTab : Tryz.prog.cellsOf 160 = 20 := by kernel_rfl
theorem cStr : Tryz.prog.cellsOf 9 = 1 := by kernel_rfl
theorem var_cells {n : String} {g : Nat} {w : World} {cs : Array Value} (hg : Tryz.prog.globalNamed n = some g) (h : w.var? Tryz.prog n = some cs) : g < w.heap.size ∧ ∀ (k : Nat) (v : Value), cs[k]? = some v → w.cell? ⟨g, k, none⟩ = some v := by
 unfold World.var? at h
 rw [hg] at h
 simp only [Option.bind_some] at h
 have hlt : g < w.heap.size := by
  rcases Nat.lt_or_ge g w.heap.size with h' | h'
  ·exact h'
  ·rw [Array.getElem?_eq_none h'] at h; cases h
 refine ⟨hlt, fun k v hk => ?_⟩
 unfold World.cell?
 revert h
 cases hh : w.heap[g]? with
 | none => intro h; cases h
 | some o =>
  cases o <;> intro h <;> simp_all
theorem str_trod {H : Type} {enc : TypeId × Value → H} {P : Program} {w : World} {base : Nat} {sp : Nat → Bool} {held : Bool} {fuel : Nat} {t : TypeId} {cs : List Value} {d : DataW H} {p : List MemPlace} {l : List UInt8}
  (ht : P.underlying t = some .string) (h : DataW.trod enc P w base sp held fuel t cs = some (d, p)) (hd : d = .lit (.string l)) : cs = [.string ⟨l.toArray⟩] := by
 obtain ⟨s, hc, hx, _⟩ := DataW.trod_string ht h
 have h1 := congrArg Prod.fst hx
 simp only at h1
 rw [hd] at h1
 simp only [DataW.lit.injEq, Lit.string.injEq] at h1
 rw [hc, h1]
/-- the strings of an array that was laid -/
theorem strs_of {W : World} {n : Nat} {t : TypeId} {f : Nat} {cs : Array Value} {ls : List (List UInt8)} {p : List MemPlace} {enc : TypeId × Value → Unit} {base : Nat} {sp : Nat → Bool} {held : Bool} (hu : Tryz.prog.underlying t = some (.array n 9)) (hl : ls.length = n)
  (hd : DataW.trod enc Tryz.prog W base sp held f t cs.toList = some (.agg (ls.map fun l => .lit (.string l)), p)) : ∀ (i : Nat) (l : List UInt8), ls[i]? = some l → cs[i]? = some (Value.string ⟨l.toArray⟩) := by
 obtain ⟨xs, m1, rfl, hx1, hlen, hn3, hel⟩ := DataW.trod_array hu hd
 have hx := congrArg Prod.fst hx1
 simp only [DataW.agg.injEq] at hx
 intro i l hi
 obtain ⟨hlt, rfl⟩ := List.getElem?_eq_some_iff.1 hi
 have he := hel i (by omega)
 rw [cStr, Nat.mul_one] at he
 have hxl : i < xs.length := by omega
 rw [List.getElem?_eq_getElem hxl] at he
 have hxi : xs[i].1 = .lit (.string ls[i]) := by
  have h2 : (xs.map (·.1))[i]? = (ls.map fun l => (DataW.lit (.string l) : DataW Unit))[i]? := by rw [← hx]
  rw [List.getElem?_map, List.getElem?_map, List.getElem?_eq_getElem hxl, List.getElem?_eq_getElem hlt] at h2
  simpa using h2
 have hc := str_trod (l := ls[i]) Tryz.underlying9 (d := xs[i].1) (p := xs[i].2) he hxi
 have h0 : ((cs.toList.drop i).take 1)[0]? = some (.string ⟨ls[i].toArray⟩) := by rw [hc]; rfl
 rw [List.getElem?_take, if_pos (by omega), List.getElem?_drop, Nat.add_zero] at h0
 simpa using h0
theorem int_trod {H : Type} {enc : TypeId × Value → H} {P : Program} {w : World} {base : Nat} {sp : Nat → Bool} {held : Bool} {fuel : Nat} {t : TypeId} {k : IntKind} {cs : List Value} {d : DataW H} {p : List MemPlace} {n : Int}
  (ht : P.underlying t = some (.int k)) (h : DataW.trod enc P w base sp held fuel t cs = some (d, p)) (hd : d = .lit (.int k n)) : cs = [.int k n] := by
 cases fuel with
 | zero => simp [DataW.trod] at h
 | succ fuel =>
  rcases cs with _ | ⟨c, _ | ⟨c', r⟩⟩
  ·simp [DataW.trod, ht] at h
  ·cases c <;> simp [DataW.trod, ht] at h
   rename_i k' m
   obtain ⟨⟨rfl, _⟩, rfl, _⟩ := h
   simpa using hd
  ·simp [DataW.trod, ht] at h
theorem lenTab : Lib.pow10Tab.length = 20 := by decide
theorem lib_of_laid0 {W : World} (h : laidMetH Tryz.prog laid5 W) : LibP W := by
 rw [MakeChecks.laidMetH_plain _ _ _ (by kernel_rfl)] at h
 obtain ⟨ps, ⟨g0, t0, cs0, f0, p0, q0, hg0, ht0, hv0, hd0, ⟨g1, t1, cs1, f1, p1, q1, hg1, ht1, hv1, hd1, ⟨g2, t2, cs2, f2, p2, q2, hg2, ht2, hv2, hd2, ⟨g3, t3, cs3, f3, p3, q3, hg3, ht3, hv3, hd3, ⟨g4, t4, cs4, f4, p4, q4, hg4, ht4, hv4, hd4, ⟨g5, t5, cs5, f5, p5, q5, hg5, ht5, hv5, hd5, ⟨g6, t6, cs6, f6, p6, q6, hg6, ht6, hv6, hd6, _, _⟩, _⟩, _⟩, _⟩, _⟩, _⟩, _⟩, _, _⟩ := h
 obtain rfl := Option.some.inj (gGrp.symm.trans hg3)
 obtain rfl := Option.some.inj (tGrp.symm.trans ht3)
 obtain rfl := Option.some.inj (gFun.symm.trans hg4)
 obtain rfl := Option.some.inj (tFun.symm.trans ht4)
 obtain rfl := Option.some.inj (gMat.symm.trans hg5)
 obtain rfl := Option.some.inj (tMat.symm.trans ht5)
 obtain rfl := Option.some.inj (gOpr.symm.trans hg6)
 obtain rfl := Option.some.inj (tOpr.symm.trans ht6)
 obtain rfl := Option.some.inj (gTab.symm.trans hg2)
 obtain rfl := Option.some.inj (tTab.symm.trans ht2)
 refine ⟨?_, ?_, ?_, ?_, ?_⟩
 ·obtain ⟨z, k⟩ := var_cells gGrp hv3
  have s := strs_of (ls := groupsT) Tryz.underlying127 rfl hd3
  exact ⟨z, fun i x hx => k i _ (s i x hx)⟩
 ·obtain ⟨z, k⟩ := var_cells gFun hv4
  have s := strs_of (ls := funcsT) Tryz.underlying132 rfl hd4
  exact ⟨z, fun i x hx => k i _ (s i x hx)⟩
 ·obtain ⟨z, k⟩ := var_cells gMat hv5
  have s := strs_of (ls := matchT) Tryz.underlying131 rfl hd5
  exact ⟨z, fun i x hx => k i _ (s i x hx)⟩
 ·obtain ⟨z, k⟩ := var_cells gOpr hv6
  have s := strs_of (ls := opersT) Tryz.underlying119 rfl hd6
  exact ⟨z, fun i x hx => k i _ (s i x hx)⟩
 ·unfold Lib.TabIs
  rw [hv2]
  congr 1
  obtain ⟨xs, m1, rfl, hx1, hlen, hn3, hel⟩ := DataW.trod_array Tryz.underlying160 hd2
  rw [cTab] at hlen
  have hx := congrArg Prod.fst hx1
  simp only [Rows.laid_internal_strconv_uint64pow10, DataW.agg.injEq] at hx
  apply Array.toList_inj.1
  apply List.ext_getElem?
  intro i
  by_cases hi : i < 20
  ·have he := hel i hi
   rw [cU64, Nat.mul_one] at he
   have hxi : (xs.map (·.1))[i]? = (Lib.pow10Tab.map fun z => (DataW.lit (.int .u64 z) : DataW Unit))[i]? := by rw [← hx]; rfl
   have hlt : i < xs.length := by omega
   rw [List.getElem?_eq_getElem hlt] at he
   have hlp : i < Lib.pow10Tab.length := by rw [lenTab]; exact hi
   rw [List.getElem?_map, List.getElem?_map, List.getElem?_eq_getElem hlt, List.getElem?_eq_getElem hlp] at hxi
   simp only [Option.map_some, Option.some.injEq] at hxi
   have hc := int_trod (n := Lib.pow10Tab[i]) Tryz.underlying144 (d := xs[i].1) (p := xs[i].2) he hxi
   have h0 : ((cs2.toList.drop i).take 1)[0]? = some (.int .u64 Lib.pow10Tab[i]) := by rw [hc]; rfl
   rw [List.getElem?_take, if_pos (by omega), List.getElem?_drop, Nat.add_zero] at h0
   rw [h0]
   simp [List.getElem?_map, List.getElem?_eq_getElem hlp]
  ·rw [List.getElem?_eq_none (by omega), List.getElem?_eq_none (by simp [lenTab]; omega)]
theorem lib_of_laid {W : World} (h : laidMetH Tryz.prog laid5 W) : LibP W := lib_of_laid0 h
end
end Go.Proofs.YthoibeajhdhdhaaGreatDoor
