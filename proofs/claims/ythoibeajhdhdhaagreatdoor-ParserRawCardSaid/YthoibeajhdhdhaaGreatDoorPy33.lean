/- Contracts, packed: Of. -/
import Derived.Test.YthoibeajhdhdhaaGreatDoorPy15
import Derived.Test.YthoibeajhdhdhaaGreatDoorPy16
import Derived.Test.YthoibeajhdhdhaaGreatDoorPy32
import Derived.Deep.CutBlock
import Derived.Deep.DeepCutAuto
set_option linter.unusedVariables false
set_option linter.unusedSimpArgs false
namespace Go.Proofs.YthoibeajhdhdhaaGreatDoor
section
open Go.RowKit FracM
theorem RP.far {w w' : World} {g B : Nat} {A : Option Addr} {c : Nat} {N : Int} {toks : List Tok} {i : Nat} {a e : Int} (h : RP w g A c N toks i a e) (hb : Below B w w') (hg : g < B) : RP w' g A c N toks i a e :=
 ⟨(hb.block g hg).trans h.mem, h.seq.keep (Agree.of_lt hb fun _ _ hx => by omega), h.ok, h.wf, h.en0, h.le, h.sm⟩
def idxG (g : Nat) (W : World) : Nat := (intOf ((W.cell? ⟨g, 1, none⟩).getD undef)).toNat
def errG (g : Nat) (W : World) : Int := intOf ((W.cell? ⟨g, 4, none⟩).getD undef)
theorem RP.idx {w : World} {g : Nat} {A : Option Addr} {c : Nat} {N : Int} {toks : List Tok} {i : Nat} {a e : Int} (h : RP w g A c N toks i a e) : idxG g w = i ∧ errG g w = e := by
 obtain ⟨_, c1, _, _, c4⟩ := h.mem.c5
 unfold idxG errG
 rw [c1, c4]
 simp [intOf]
/-- what is left to do, and whether it may go wrong still -/
def leftG (g len : Nat) (W : World) : Nat := 2 * (len - idxG g W) + (if errG g W = 0 then 1 else 0)
theorem bysM_one (n : Nat) (en : Int) (l : List ByteArray) (ts : List Tok) : bysM (n + 1) en l ts = andR (byM en l ts) fun x ts' => if isT ts' 3 sComma then bysM n en (l ++ [x]) ts'.tail else .ok (l ++ [x], ts') := by rw [bysM]
def byRest (en : Int) (n : Nat) (l : List ByteArray) (ts : List Tok) : Res (List ByteArray) := andR (bysM n en l ts) fun l ts2 => andR (symbolM en sShut ts2) fun _ ts3 => .ok (l, ts3)
/-- the loop of by: the names so far, the state, what is left -/
def ByI (w : World) (g : Nat) (A : Option Addr) (c : Nat) (N : Int) (toks : List Tok) (M : Res (List ByteArray)) (v : Value) (wr : World) : Prop :=
  ∃ l : List ByteArray, wr.ownsRow w.heap.size 9 1 v l.length (l.map Value.string) ∧ l.length ≤ 9 ∧ Only g w wr ∧
    ((∃ i n, RP wr g A c N toks i 0 0 ∧ l.length ≤ 8 ∧ (∀ x ∈ l, x.size ≤ 2000) ∧ toks.length - i < n ∧ (l ≠ [] → kindT (toks.drop i) 0 = true) ∧ M = if l = [] ∧ isT (toks.drop i) 3 sShut = true then .ok ([], (toks.drop i).tail) else byRest N n l (toks.drop i)) ∨
     (∃ i a e, RP wr g A c N toks i a e ∧ e ≠ 0 ∧ M = .error (a, e)))
abbrev GSl (v : Value) : Prop := ∃ A n c, v = .slice A n c
def VBys (B : Nat) (l : List ByteArray) (v : Value) (w : World) : Prop := l.length ≤ 8 ∧ (∀ x ∈ l, x.size ≤ 2000) ∧ SeqP w (fun b _ => B ≤ b) 1 v l.length (l.map Value.string)
theorem sShut_sym : SymX sShut := ⟨41, [], rfl, by decide⟩
theorem sComma_sym : SymX sComma := ⟨44, [], rfl, by decide⟩
theorem sOpen_sym : SymX sOpen := ⟨40, [], rfl, by decide⟩
theorem kind_ne {ts : List Tok} {x : List UInt8} (h : kindT ts 0 = true) : isT ts 3 x = false := by
 cases ts with
 | nil => rfl
 | cons t r =>
  show (t.kind == 3 && t.text == x) = false
  have : (t.kind == 0) = true := h
  have h0 : t.kind = 0 := by simpa using this
  rw [h0]; rfl
theorem byM_eq (en : Int) (l : List ByteArray) (ts : List Tok) : byM en l ts = if kindT ts 0 then (if 8 ≤ l.length then bad en ts 4 else if lastLe l (bsL (headT ts).text) = true then bad en ts 8 else .ok (bsL (headT ts).text, ts.tail)) else bad en ts 2 := by unfold byM lastLe; rfl
theorem byRest_err {en : Int} {n : Nat} {l : List ByteArray} {ts : List Tok} {f : Int × Int} (h : byM en l ts = .error f) : byRest en (n + 1) l ts = .error f := by unfold byRest; rw [bysM_one, h]; rfl
set_option maxHeartbeats 8000000 in
set_option maxRecDepth 100000 in
/-- the loop and what follows -/
theorem rby_good {w : World} {g : Nat} {A : Option Addr} {c : Nat} {N : Int} {toks : List Tok} {i : Nat} (h : RP w g A c N toks i 0 0) (hb : isT (toks.drop i) 0 sBy = true) : Calls Tryz.prog 159 #[.pointer (some ⟨g, 0, none⟩)] w (RetR g A c N toks w (gByM N (toks.drop i)) (VBys w.heap.size) GSl) := by
 obtain ⟨j0, hj, hy0, hy1, hy2⟩ := info_parts strInfo
 have HJ := Box.mk (And.intro hj (And.intro hy0 (And.intro hy1 hy2)))
 have H := Box.mk h
 have HBY := Box.mk hb
 have hlt := isT_lt hb
 have HG : Box (g < w.heap.size) := ⟨h.mem.lt⟩
 have hsm := h.sm
 clear h hb hj hy0 hy1 hy2
 go_enter Tryz.func159, Tryz.ntmps159
 go_wp2_with fail
 refine (rtake_good H.out hlt).mono ?_
 rintro e w1 ⟨rfl, ho, hp⟩
 have H1 := Box.mk hp
 have HO1 := Box.mk ho
 clear ho hp
 go_wp2_with fail
 refine (rexpect_good sOpen ⟨#[40]⟩ rfl sOpen_sym H1.out).mono ?_
 intro e w2 hx
 obtain ⟨ho, hx⟩ := hx.cases
 have HO2 := Box.mk (HO1.out.trans ho)
 clear ho
 have HM0 : Box (gByM N (toks.drop i) = andR (symbolM N sOpen (toks.drop (i + 1))) fun _ ts1 => if isT ts1 3 sShut then .ok ([], ts1.tail) else andR (bysM (ts1.length + 1) N [] ts1) fun l ts2 => andR (symbolM N sShut ts2) fun _ ts3 => .ok (l, ts3)) := ⟨by unfold gByM; rw [if_pos HBY.out, List.tail_drop]⟩
 obtain ⟨Mm, HMM⟩ : ∃ Mm, Box (gByM N (toks.drop i) = Mm) := ⟨_, ⟨rfl⟩⟩
 rw [HMM.out] at HM0
 have HI : Box (ByI w g A c N toks Mm (.slice none 0 0) w2 ∧ e = .returned (.tuple #[])) := by
  rcases hx with ⟨a, us, v, i2, hr, rfl, hi2, hp, rfl⟩ | ⟨a, er, v, i2, hr, rfl, he, hp, rfl⟩
  ·refine ⟨⟨[], World.ownsRow_nil _ _ _ _, by simp, HO2.out, .inl ⟨i2, toks.length - i2 + 1, hp, by simp, by simp, by omega, by simp, ?_⟩⟩, rfl⟩
   rw [HM0.out, hr, ← hi2]
   show (if _ then _ else _) = _
   unfold byRest
   by_cases hs : isT (toks.drop i2) 3 sShut = true
   ·rw [if_pos hs, if_pos ⟨rfl, hs⟩]
   ·rw [if_neg hs, if_neg (fun hh => hs hh.2), List.length_drop]
  ·exact ⟨⟨[], World.ownsRow_nil _ _ _ _, by simp, HO2.out, .inr ⟨i2, a, er, hp, he, by rw [HM0.out, hr]; rfl⟩⟩, rfl⟩
 obtain ⟨hI, hee⟩ := HI.out
 subst hee
 have HI2 := Box.mk hI
 clear hx HO1 HO2 H1 HM0 HI hI
 go_wp2_with fail
 go_loopw [3] (fun v wr => ByI w g A c N toks Mm v wr) (fun _ wr => leftG g toks.length wr)
 case atStart => exact HI2.out
 case round =>
  clear HI2
  obtain ⟨l, hrow, hl9, hO, hst⟩ := hrel
  have HRW := Box.mk hrow
  have HO := Box.mk hO
  have hwz := hO.size
  clear hrow hO
  obtain ⟨A3, c3, hv3, hl63⟩ := (SeqP.of_own (P := fun b _ => True) HRW.out (fun _ _ _ _ => trivial)).form
  subst hv3
  rcases hst with ⟨i, n, hp, hl8, hsz, hn, hw, hM⟩ | ⟨i, a, er, hp, he, hM⟩
  ·have HP := Box.mk hp
   have HSZ := Box.mk hsz
   have HWD := Box.mk hw
   have HM := Box.mk hM
   have HN := Box.mk hn
   have hile := hp.le
   obtain ⟨c0, c1, c2, c3', c4⟩ := hp.mem.c5
   obtain ⟨q, hq⟩ : ∃ q, isT (toks.drop i) 3 sShut = q := ⟨_, rfl⟩
   have HQ := Box.mk hq
   have HQX : Box (isX (toks.drop i) sShut = q) := ⟨by rw [isX_sym (hp.wfd i) sShut_sym]; exact hq⟩
   clear hp hsz hw hM hn hq c0 c1 c2 c3'
   go_wp2_with fail
   refine (ris_any sShut ⟨#[41]⟩ rfl HP.out).mono ?_
   rintro e w3 ⟨rfl, m, rfl⟩
   rw [HQX.out]
   have HP1 := Box.mk (HP.out.drewN m)
   have HO1 : Box (Only g w (wr.drewN m)) := ⟨HO.out.trans (Only.of_below (below_drewN _ _))⟩
   have HR1 : Box ((wr.drewN m).ownsRow w.heap.size 9 1 (.slice A3 l.length c3) l.length (l.map Value.string)) := ⟨own_belowR HRW.out (below_drewN _ _)⟩
   have HMS : Box (leftG g toks.length wr = 2 * (toks.length - i) + 1) := ⟨by unfold leftG; rw [HP.out.idx.1, HP.out.idx.2]; rfl⟩
   clear HP HO HRW c4
   generalize wr.drewN m = W at HP1 HO1 HR1 ⊢
   cases q
   ·have HMB : Box (Mm = byRest N n l (toks.drop i)) := ⟨by rw [HM.out, if_neg (fun hh => by rw [HQ.out] at hh; exact absurd hh.2 (by simp))]⟩
    have HK : Box (kindT (toks.drop i) 0 = decide (kindZ (toks.drop i) = 0)) := ⟨by
     cases hd : toks.drop i with
     | nil => rfl
     | cons t r => show (t.kind == 0) = decide (t.kind = 0); rw [Bool.eq_iff_iff, beq_iff_eq, decide_eq_true_eq]⟩
    obtain ⟨n', hn'⟩ : ∃ n', n = n' + 1 := ⟨n - 1, by have := HN.out; omega⟩
    have HNN := Box.mk hn'
    go_upto_if 20 with (go_at_call 130; refine (rkind_any HP1.out).mono ?_; rintro e w4 ⟨rfl, m2, rfl⟩)
    have HP2 := Box.mk (HP1.out.drewN m2)
    have HO2 : Box (Only g w (W.drewN m2)) := ⟨HO1.out.trans (Only.of_below (below_drewN _ _))⟩
    have HR2 : Box ((W.drewN m2).ownsRow w.heap.size 9 1 (.slice A3 l.length c3) l.length (l.map Value.string)) := ⟨own_belowR HR1.out (below_drewN _ _)⟩
    clear HP1 HO1 HR1
    generalize W.drewN m2 = W at HP2 HO2 HR2 ⊢
    obtain ⟨kz, hkz⟩ : ∃ kz, kindZ (toks.drop i) = kz := ⟨_, rfl⟩
    rw [hkz] at HK ⊢
    clear hkz hn'
    go_cut [] (fun wx => Box (Only g w wx) ∧ Box (wx.ownsRow w.heap.size 9 1 (.slice A3 l.length c3) l.length (l.map Value.string)) ∧ ((Box (RP wx g A c N toks i 0 0) ∧ Box (kindT (toks.drop i) 0 = true ∧ l.length < 8 ∧ lastLe l (bsL (headT (toks.drop i)).text) = false)) ∨ ∃ a er, Box (RP wx g A c N toks i a er) ∧ Box (er ≠ 0 ∧ Mm = .error (a, er))))
    case first =>
     by_cases hk : kz = 0
     ·have hk2 : (kz != 0) = false := by simp [hk]
      have HK1 : Box (kindT (toks.drop i) 0 = true) := ⟨by rw [HK.out, decide_eq_true hk]⟩
      clear hk HK
      by_cases h8 : l.length = 8
      ·have h82 : ((l.length : Int) == 8) = true := by simp; omega
       have HE : Box (Mm = .error (failAt (toks.drop i) N, 4)) := ⟨by rw [HMB.out, HNN.out]; exact byRest_err (by unfold byM; rw [if_pos HK1.out, if_pos (by omega)]; rfl)⟩
       clear h8
       go_wp2_with fail
       refine (rfail_good 4 HP2.out).mono ?_
       rintro e w5 ⟨rfl, ho, hp⟩
       have HP3 := Box.mk hp
       have HO3 := Box.mk (HO2.out.trans ho)
       have HR3 := Box.mk (own_only HR2.out ho HG.out)
       clear ho hp
       go_wp2_with fail
       go_meet
       exact ⟨HO3, HR3, .inr ⟨_, 4, HP3, ⟨by omega, HE.out⟩⟩⟩
      ·have h82 : ((l.length : Int) == 8) = false := by simp; omega
       obtain ⟨t, r, hd⟩ := kindT_cons HK1.out
       have HD := Box.mk hd
       obtain ⟨ht, -, hlt3⟩ := drop_cons hd
       obtain ⟨b, off, hA, hb, hne, -, -, k0, k1, k2, k3⟩ := HP2.out.tok ht
       obtain ⟨d0, d1, d2, d3, d4⟩ := HP2.out.mem.c5
       rw [hA] at d0
       have hlt2 : (i : Int) < (toks.length : Int) := by omega
       have hi0 : (0 : Int) ≤ (i : Int) := by omega
       have H8 := Box.mk (show l.length < 8 by omega)
       have HTX : Box ((headT (toks.drop i)).text = t.text) := ⟨by rw [HD.out]; rfl⟩
       clear hd ht k0 k2 k3 d2 d3 d4
       rcases Nat.eq_zero_or_pos l.length with h0 | h0
       ·have h02 : decide (0 < l.length) = false := decide_eq_false (by omega)
        have HL : Box (lastLe l (bsL t.text) = false) := ⟨by rw [List.eq_nil_of_length_eq_zero h0]; rfl⟩
        clear h8 h0
        go_upto_region 9 with (fail)
        go_quiet (fail)
        go_wp2_with fail
        go_meet
        exact ⟨⟨HO2.out.trans (Only.of_below (below_drewN _ _))⟩, ⟨own_belowR HR2.out (below_drewN _ _)⟩, .inl ⟨⟨HP2.out.drewN _⟩, ⟨HK1.out, H8.out, by rw [HTX.out]; exact HL.out⟩⟩⟩
       ·obtain ⟨k', hk'⟩ : ∃ k', l.length = k' + 1 := ⟨l.length - 1, by omega⟩
        obtain ⟨y, hy⟩ : ∃ y, l[k']? = some y := ⟨l[k']'(by omega), List.getElem?_eq_getElem _⟩
        obtain ⟨b', off', hA', hb', -, m1⟩ := (SeqP.of_own (P := fun b _ => True) HR2.out (fun _ _ _ _ => trivial)).at1b k' (.string y) (by rw [List.getElem?_map, hy]; rfl)
        have HL : Box (lastLe l (bsL t.text) = leS (bsL t.text) y) := ⟨by unfold lastLe; rw [List.getLast?_eq_getElem?, hk', Nat.add_sub_cancel, hy]⟩
        have h02 : decide (0 < l.length) = true := decide_eq_true (by omega)
        have h03 : 0 < l.length := by omega
        have hj1 : IntKind.i64.wrap ((l.length : Int) - 1) = (k' : Int) := by rw [show (l.length : Int) - 1 = (k' : Int) by omega]; exact IntWalk.i64_in _ (by omega)
        have hj2 : (k' : Int) < (l.length : Int) := by omega
        have hj0 : (0 : Int) ≤ (k' : Int) := by omega
        obtain ⟨tx, htx⟩ : ∃ tx, bsL t.text = tx := ⟨_, rfl⟩
        rw [htx] at k1 HL
        have HTB := Box.mk htx
        subst hA'
        clear h8 hy htx hk' h0
        cases hq : leS tx y
        ·have q : (Op.bytesLess tx.toList y.toList || tx.toList == y.toList) = false := hq
         rw [hq] at HL
         clear hq
         go_upto_region 9 with (fail)
         go_quiet (fail)
         go_wp2_with fail
         go_meet
         exact ⟨⟨HO2.out.trans (Only.of_below (below_drewN _ _))⟩, ⟨own_belowR HR2.out (below_drewN _ _)⟩, .inl ⟨⟨HP2.out.drewN _⟩, ⟨HK1.out, H8.out, by rw [HTX.out, HTB.out]; exact HL.out⟩⟩⟩
        ·have q : (Op.bytesLess tx.toList y.toList || tx.toList == y.toList) = true := hq
         rw [hq] at HL
         have HE : Box (Mm = .error (failAt (toks.drop i) N, 8)) := ⟨by
          rw [HMB.out, HNN.out]
          refine byRest_err ?_
          rw [byM_eq, if_pos HK1.out, if_neg (by have := H8.out; omega), HTX.out, HTB.out, if_pos HL.out]
          rfl⟩
         clear hq
         go_upto_region 9 with (fail)
         go_quiet (fail)
         have HP2' := Box.mk (HP2.out.drewN nq)
         have HO2' : Box (Only g w (W.drewN nq)) := ⟨HO2.out.trans (Only.of_below (below_drewN _ _))⟩
         have HR2' : Box ((W.drewN nq).ownsRow w.heap.size 9 1 (.slice (some ⟨b', off', none⟩) l.length c3) l.length (l.map Value.string)) := ⟨own_belowR HR2.out (below_drewN _ _)⟩
         generalize W.drewN nq = W5 at HP2' HO2' HR2' ⊢
         clear HP2 HO2 HR2 k1 d0 d1 m1
         go_wp2_with fail
         refine (rfail_good 8 HP2'.out).mono ?_
         rintro e w5 ⟨rfl, ho, hp⟩
         have HP3 := Box.mk hp
         have HO3 := Box.mk (HO2'.out.trans ho)
         have HR3 := Box.mk (own_only HR2'.out ho HG.out)
         clear ho hp
         go_wp2_with fail
         go_meet
         exact ⟨HO3, HR3, .inr ⟨_, 8, HP3, ⟨by omega, HE.out⟩⟩⟩
     ·have hk2 : (kz != 0) = true := by simp [hk]
      have HE : Box (Mm = .error (failAt (toks.drop i) N, 2)) := ⟨by rw [HMB.out, HNN.out]; exact byRest_err (by unfold byM; rw [HK.out, decide_eq_false hk]; rfl)⟩
      clear hk
      go_wp2_with fail
      refine (rfail_good 2 HP2.out).mono ?_
      rintro e w5 ⟨rfl, ho, hp⟩
      have HP3 := Box.mk hp
      have HO3 := Box.mk (HO2.out.trans ho)
      have HR3 := Box.mk (own_only HR2.out ho HG.out)
      clear ho hp
      go_wp2_with fail
      go_meet
      exact ⟨HO3, HR3, .inr ⟨_, 2, HP3, ⟨by omega, HE.out⟩⟩⟩
    case rest =>
     obtain ⟨HO3, HR3, hst⟩ := hcut
     rename World => W3
     clear HP2 HO2 HR2
     have hz3 := HO3.out.size
     rcases hst with ⟨HP3, HC⟩ | ⟨a, er, HP3, HC⟩
     ·obtain ⟨t, r, hd⟩ := kindT_cons HC.out.1
      have HS : Box (wordM N (toks.drop i) = .ok (t.text, r)) := ⟨by unfold wordM; rw [if_pos HC.out.1, hd]; rfl⟩
      have HD : Box (toks.drop i = t :: r ∧ i < toks.length) := ⟨hd, (drop_cons hd).2.2⟩
      have HTX : Box (t.text.length ≤ 2000) := ⟨(HP3.out.ok t (List.mem_of_getElem? (drop_cons hd).1)).s⟩
      clear hd
      go_wp2_with fail
      refine (rword_good HP3.out).mono ?_
      intro e w5 hx
      rw [HS.out] at hx
      obtain ⟨ho, hx⟩ := hx.cases
      rcases hx with ⟨a, us, v, i2, hr, rfl, hi2, hp, hv⟩ | ⟨a, er, v, i2, hr, rfl, he, hp, hv⟩
      case inr => cases hr
      injection hr with hr
      injection hr with hr1 hr2
      subst hr1
      subst hr2
      subst hv
      have HP5 := Box.mk hp
      have HO5 := Box.mk (HO3.out.trans ho)
      have HR5 := Box.mk (own_only HR3.out ho HG.out)
      have hz5 := HO5.out.size
      have HI2 : Box (i2 = i + 1 ∧ toks.drop i2 = r) := ⟨by
       have h1 := congrArg List.length hi2
       have h2 := congrArg List.length HD.out.1
       rw [List.length_drop] at h1 h2
       rw [List.length_cons] at h2
       have := hp.le
       omega, hi2⟩
      obtain ⟨x, hxx⟩ : ∃ x, bsL t.text = x := ⟨_, rfl⟩
      have HXX : Box (bsL t.text = x ∧ x.size ≤ 2000) := ⟨hxx, by rw [← hxx, bsL_size]; exact HTX.out⟩
      have HBM : Box (byM N l (toks.drop i) = .ok (x, r)) := ⟨by
       rw [byM_eq, if_pos HC.out.1, if_neg (by have := HC.out.2.1; omega), if_neg (by rw [HC.out.2.2]; simp), HD.out.1, ← hxx]; rfl⟩
      rw [hxx]
      clear ho hp hi2 hxx HP3 HO3 HR3
      go_wp2_with (at_builtin; refine wpList_append_lies _ rfl _ _ 26 rfl w.heap.size 9 j0 _ 1 16 Tryz.underlying26 HJ.out.1 HJ.out.2.1 HJ.out.2.2.1 HJ.out.2.2.2 rfl (by decide) (.slice A3 l.length c3) l.length (l.map Value.string) rfl (by exact World.ownsRow.alloc HR5.out _) ⟨w5.heap.size, 0, none⟩ 1 1 [.string x] rfl rfl (cells1 _ _ _) (by intro u hu; simp at hu; subst hu; rfl) (by decide) (by unfold maxLen; omega) (by omega) (by simp; omega) _ rfl ?_; intro g8 cap8 w6 hown6 hg6 hat6 hlt6)
      have HB6 : Box (Below w.heap.size w5 w6) := ⟨((Below.refl _ _).alloc (by omega) _).trans (grow_lt (World.ownsRow.alloc HR5.out _) hg6 (by simp; omega))⟩
      have HR6 : Box (w6.ownsRow w.heap.size 9 1 (.slice (some ⟨g8, 0, none⟩) (l.length + 1) cap8) (l ++ [x]).length ((l ++ [x]).map Value.string)) := ⟨by simpa using hown6⟩
      clear hown6 hg6 hat6 hlt6
      have HP6 := Box.mk (HP5.out.far HB6.out HG.out)
      have HO6 : Box (Only g w w6) := ⟨HO5.out.low_then HB6.out⟩
      clear HP5 HO5 HR5
      obtain ⟨q2, hq2⟩ : ∃ q, isT (toks.drop i2) 3 sComma = q := ⟨_, rfl⟩
      have HQ2 := Box.mk hq2
      have HQX2 : Box (isX (toks.drop i2) sComma = q2) := ⟨by rw [isX_sym (HP6.out.wfd i2) sComma_sym]; exact hq2⟩
      clear hq2
      go_wp2_with fail
      refine (ris_any sComma ⟨#[44]⟩ rfl HP6.out).mono ?_
      rintro e w7 ⟨rfl, m7, rfl⟩
      rw [HQX2.out]
      have HP7 := Box.mk (HP6.out.drewN m7)
      have HO7 : Box (Only g w (w6.drewN m7)) := ⟨HO6.out.trans (Only.of_below (below_drewN _ _))⟩
      have HR7 := Box.mk (own_belowR HR6.out (below_drewN w6 m7))
      clear HP6 HO6 HR6
      generalize w6.drewN m7 = W7 at HP7 HO7 HR7 ⊢
      have hz7 := HO7.out.size
      have HX9 : Box (∀ z ∈ l ++ [x], z.size ≤ 2000) := ⟨fun z hz => by
       rcases List.mem_append.1 hz with hz | hz
       ·exact HSZ.out z hz
       ·rw [List.mem_singleton] at hz; rw [hz]; exact HXX.out.2⟩
      cases q2
      ·have HMR : Box (Mm = andR (symbolM N sShut (toks.drop i2)) fun _ ts3 => .ok (l ++ [x], ts3)) := ⟨by
        rw [HMB.out, HNN.out]
        unfold byRest
        rw [bysM_one, HBM.out]
        show andR (if isT r 3 sComma = true then _ else _) _ = _
        rw [← HI2.out.2, HQ2.out]; rfl⟩
       go_wp2_with fail
       refine (rexpect_good sShut ⟨#[41]⟩ rfl sShut_sym HP7.out).mono ?_
       intro e w9 hx
       obtain ⟨ho, hx⟩ := hx.cases
       have HO9 := Box.mk (HO7.out.trans ho)
       have HR9 := Box.mk (own_only HR7.out ho HG.out)
       rcases hx with ⟨a, us, v, i9, hr, rfl, hi9, hp, rfl⟩ | ⟨a, er, v, i9, hr, rfl, he, hp, rfl⟩
       ·have HF : Box (Mm = .ok (l ++ [x], us)) := ⟨by rw [HMR.out, hr]; rfl⟩
        have HP9 := Box.mk (And.intro hp hi9)
        clear ho hp hr hi9
        go_wp2_with fail
        go_ret
        exact RetR.ok (HMM.out.trans HF.out) HO9.out HP9.out.2 HP9.out.1 ⟨by simp; have := HC.out.2.1; omega, HX9.out, SeqP.of_own HR9.out fun b c hb _ => hb⟩
       ·have HF : Box (Mm = .error (a, er)) := ⟨by rw [HMR.out, hr]; rfl⟩
        have HP9 := Box.mk (And.intro hp he)
        clear ho hp hr he
        go_wp2_with fail
        go_ret
        exact RetR.er (HMM.out.trans HF.out) HP9.out.2 HO9.out HP9.out.1 ⟨_, _, _, rfl⟩
      ·have hlt7 := isT_lt HQ2.out
       go_wp2_with fail
       refine (rtake_good HP7.out hlt7).mono ?_
       rintro e w8 ⟨rfl, ho, hp⟩
       have HP8 := Box.mk hp
       have HO8 := Box.mk (HO7.out.trans ho)
       have HR8 := Box.mk (own_only HR7.out ho HG.out)
       clear ho hp HP7 HO7 HR7
       go_wp2_with fail
       refine (rkind_any HP8.out).mono ?_
       rintro e w9 ⟨rfl, m9, rfl⟩
       have HP9 := Box.mk (HP8.out.drewN m9)
       have HO9 : Box (Only g w (w8.drewN m9)) := ⟨HO8.out.trans (Only.of_below (below_drewN _ _))⟩
       have HR9 := Box.mk (own_belowR HR8.out (below_drewN w8 m9))
       clear HP8 HO8 HR8
       generalize w8.drewN m9 = W9 at HP9 HO9 HR9 ⊢
       have HK9 : Box (kindT (toks.drop (i2 + 1)) 0 = decide (kindZ (toks.drop (i2 + 1)) = 0)) := ⟨by
        cases hd : toks.drop (i2 + 1) with
        | nil => rfl
        | cons t r => show (t.kind == 0) = decide (t.kind = 0); rw [Bool.eq_iff_iff, beq_iff_eq, decide_eq_true_eq]⟩
       obtain ⟨kz9, hkz9⟩ : ∃ kz, kindZ (toks.drop (i2 + 1)) = kz := ⟨_, rfl⟩
       rw [hkz9] at HK9 ⊢
       clear hkz9
       have HMR : Box (Mm = byRest N n' (l ++ [x]) (toks.drop (i2 + 1))) := ⟨by
        rw [HMB.out, HNN.out]
        unfold byRest
        rw [bysM_one, HBM.out]
        show andR (if isT r 3 sComma = true then _ else _) _ = _
        rw [← HI2.out.2, HQ2.out, if_pos rfl, List.tail_drop]⟩
       have HLN : Box ((l ++ [x]).length = l.length + 1 ∧ l.length < 8) := ⟨by simp, HC.out.2.1⟩
       have HNI : Box (toks.length - (i2 + 1) < n' ∧ i2 = i + 1 ∧ i < toks.length) := ⟨by have := HN.out; have := HNN.out; have := HI2.out.1; have := HD.out.2; omega, HI2.out.1, HD.out.2⟩
       by_cases hk9 : kz9 = 0
       ·have hk92 : (kz9 != 0) = false := by simp [hk9]
        have HKT : Box (kindT (toks.drop (i2 + 1)) 0 = true) := ⟨by rw [HK9.out, decide_eq_true hk9]⟩
        clear hk9
        go_wp2_with fail
        go_roundw
        ·exact ⟨l ++ [x], HR9.out, by have := HLN.out; omega, HO9.out, .inl ⟨i2 + 1, n', HP9.out, by have := HLN.out; omega, HX9.out, HNI.out.1, fun _ => HKT.out, by rw [if_neg (by simp)]; exact HMR.out⟩⟩
        ·rw [HMS.out]; unfold leftG; rw [HP9.out.idx.1, HP9.out.idx.2]; have := HNI.out; simp; omega
       ·have hk92 : (kz9 != 0) = true := by simp [hk9]
        have HF : Box (Mm = .error (failAt (toks.drop (i2 + 1)) N, 2)) := ⟨by
         rw [HMR.out]
         obtain ⟨n'', hn''⟩ : ∃ n'', n' = n'' + 1 := ⟨n' - 1, by have := HNI.out; omega⟩
         rw [hn'']
         exact byRest_err (by unfold byM; rw [HK9.out, decide_eq_false hk9]; rfl)⟩
        clear hk9
        go_wp2_with fail
        refine (rfail_good 2 HP9.out).mono ?_
        rintro e w10 ⟨rfl, ho, hp⟩
        have HP10 := Box.mk hp
        have HO10 := Box.mk (HO9.out.trans ho)
        have HR10 := Box.mk (own_only HR9.out ho HG.out)
        clear ho hp
        go_wp2_with fail
        go_roundw
        ·exact ⟨l ++ [x], HR10.out, by have := HLN.out; omega, HO10.out, .inr ⟨i2 + 1, _, 2, HP10.out, by omega, HF.out⟩⟩
        ·rw [HMS.out]; unfold leftG; rw [HP10.out.idx.1, HP10.out.idx.2]; have := HNI.out; simp; omega
     ·go_wp2_with fail
      refine (rword_bad HC.out.1 HP3.out).mono ?_
      rintro e w5 ⟨ho, v5, rfl, hp5, rfl⟩
      have HP5 := Box.mk hp5
      have HO5 := Box.mk (HO3.out.trans ho)
      have HR5 := Box.mk (own_only HR3.out ho HG.out)
      have hz5 := HO5.out.size
      clear ho hp5 HP3 HO3 HR3
      go_wp2_with (at_builtin; refine wpList_append_lies _ rfl _ _ 26 rfl w.heap.size 9 j0 _ 1 16 Tryz.underlying26 HJ.out.1 HJ.out.2.1 HJ.out.2.2.1 HJ.out.2.2.2 rfl (by decide) (.slice A3 l.length c3) l.length (l.map Value.string) rfl (by exact World.ownsRow.alloc HR5.out _) ⟨w5.heap.size, 0, none⟩ 1 1 [.string (⟨#[]⟩ : ByteArray)] rfl rfl (cells1 _ _ _) (by intro u hu; simp at hu; subst hu; rfl) (by decide) (by unfold maxLen; omega) (by omega) (by simp; omega) _ rfl ?_; intro g8 cap8 w6 hown6 hg6 hat6 hlt6)
      have HB6 : Box (Below w.heap.size w5 w6) := ⟨((Below.refl _ _).alloc (by omega) _).trans (grow_lt (World.ownsRow.alloc HR5.out _) hg6 (by simp; omega))⟩
      have HR6 : Box (w6.ownsRow w.heap.size 9 1 (.slice (some ⟨g8, 0, none⟩) (l.length + 1) cap8) (l ++ [(⟨#[]⟩ : ByteArray)]).length ((l ++ [(⟨#[]⟩ : ByteArray)]).map Value.string)) := ⟨by simpa using hown6⟩
      clear hown6 hg6 hat6 hlt6
      have HP6 := Box.mk (HP5.out.far HB6.out HG.out)
      have HO6 : Box (Only g w w6) := ⟨HO5.out.low_then HB6.out⟩
      clear HP5 HO5 HR5
      go_wp2_with fail
      refine (ris_any sComma ⟨#[44]⟩ rfl HP6.out).mono ?_
      rintro e w7 ⟨rfl, m7, rfl⟩
      have HP7 := Box.mk (HP6.out.drewN m7)
      have HO7 : Box (Only g w (w6.drewN m7)) := ⟨HO6.out.trans (Only.of_below (below_drewN _ _))⟩
      have HR7 := Box.mk (own_belowR HR6.out (below_drewN w6 m7))
      clear HP6 HO6 HR6
      generalize w6.drewN m7 = W7 at HP7 HO7 HR7 ⊢
      generalize isX (toks.drop i) sComma = q2
      cases q2
      ·go_wp2_with fail
       refine (rexpect_bad ⟨#[41]⟩ HC.out.1 HP7.out).mono ?_
       rintro e' w9 ⟨ho9, v9, rfl, hp9, rfl⟩
       have HP9 := Box.mk hp9
       have HO9 := Box.mk (HO7.out.trans ho9)
       clear hp9 ho9
       go_wp2_with fail
       go_ret
       exact RetR.er (HMM.out.trans HC.out.2) HC.out.1 HO9.out HP9.out ⟨_, _, _, rfl⟩
      ·go_wp2_with fail
       refine (rtake_bad HC.out.1 HP7.out).mono ?_
       rintro e w8 ⟨rfl, rfl⟩
       go_wp2_with fail
       refine (rkind_any HP7.out).mono ?_
       rintro e w9 ⟨rfl, m9, rfl⟩
       have HP9 := Box.mk (HP7.out.drewN m9)
       have HO9 : Box (Only g w (w8.drewN m9)) := ⟨HO7.out.trans (Only.of_below (below_drewN _ _))⟩
       have HR9 := Box.mk (own_belowR HR7.out (below_drewN w8 m9))
       clear HP7 HO7 HR7
       generalize w8.drewN m9 = W9 at HP9 HO9 HR9 ⊢
       generalize kindZ (toks.drop i) = kz9
       by_cases hk9 : kz9 = 0
       ·have hk92 : (kz9 != 0) = false := by simp [hk9]
        clear hk9
        go_wp2_with fail
        go_roundw
        ·exact ⟨l ++ [(⟨#[]⟩ : ByteArray)], HR9.out, by simp; omega, HO9.out,   .inr ⟨i, a, er, HP9.out, HC.out.1, HC.out.2⟩⟩
        ·rw [HMS.out]; unfold leftG; rw [HP9.out.idx.1, HP9.out.idx.2, if_neg HC.out.1]; omega
       ·have hk92 : (kz9 != 0) = true := by simp [hk9]
        clear hk9
        go_wp2_with fail
        refine (rfail_bad 2 HC.out.1 HP9.out).mono ?_
        rintro e w10 ⟨rfl, rfl⟩
        go_wp2_with fail
        go_roundw
        ·exact ⟨l ++ [(⟨#[]⟩ : ByteArray)], HR9.out, by simp; omega, HO9.out,   .inr ⟨i, a, er, HP9.out, HC.out.1, HC.out.2⟩⟩
        ·rw [HMS.out]; unfold leftG; rw [HP9.out.idx.1, HP9.out.idx.2, if_neg HC.out.1]; omega
   ·have hl0 : l = [] := by
     rcases Nat.eq_zero_or_pos l.length with h0 | h0
     ·exact List.eq_nil_of_length_eq_zero h0
     ·have := kind_ne (x := sShut) (HWD.out (by rintro rfl; simp at h0))
      rw [HQ.out] at this; cases this
    have HS : Box (symbolM N sShut (toks.drop i) = .ok ((), (toks.drop i).tail)) := ⟨by unfold symbolM; rw [if_pos HQ.out]⟩
    have HMO : Box (Mm = .ok ([], (toks.drop i).tail)) := ⟨by rw [HM.out, if_pos ⟨hl0, HQ.out⟩]⟩
    subst hl0
    go_wp2_with fail
    refine (rexpect_good sShut ⟨#[41]⟩ rfl sShut_sym HP1.out).mono ?_
    intro e w9 hx
    rw [HS.out] at hx
    obtain ⟨ho, hx⟩ := hx.cases
    rcases hx with ⟨a, us, v, i2, hr, rfl, hi2, hp, rfl⟩ | ⟨a, er, v, i2, hr, rfl, he, hp, rfl⟩
    ·have HP9 := Box.mk hp
     have HO9 := Box.mk (HO1.out.trans ho)
     have HR9 := Box.mk (own_only HR1.out ho HG.out)
     have HI2 : Box (toks.drop i2 = (toks.drop i).tail) := ⟨by cases hr; exact hi2⟩
     clear hp ho hr hi2
     go_wp2_with fail
     go_ret
     exact RetR.ok (HMM.out.trans HMO.out) HO9.out HI2.out HP9.out ⟨by simp, by simp, SeqP.of_own HR9.out fun b c hb _ => hb⟩
    ·cases hr
  ·have HP := Box.mk hp
   have HE := Box.mk he
   have HM := Box.mk hM
   obtain ⟨c0, c1, c2, c3', c4⟩ := hp.mem.c5
   have he2 : (er == 0) = false := by simp [he]
   clear hp he hM c0 c1 c2 c3'
   go_wp2_with fail
   refine (rexpect_bad ⟨#[41]⟩ HE.out HP.out).mono ?_
   rintro e' w9 ⟨ho9, v9, rfl, hp9, rfl⟩
   have HP9 := Box.mk hp9
   have HO9 := Box.mk (HO.out.trans ho9)
   clear hp9 ho9
   go_wp2_with fail
   go_ret
   exact RetR.er (HMM.out.trans HM.out) HE.out HO9.out HP9.out ⟨_, _, _, rfl⟩
end
end Go.Proofs.YthoibeajhdhdhaaGreatDoor
