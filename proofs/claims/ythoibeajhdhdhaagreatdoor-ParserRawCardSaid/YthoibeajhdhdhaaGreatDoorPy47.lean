/- Contracts, packed: Ol Jp Jq Fb Mi. -/
import Derived.Test.YthoibeajhdhdhaaGreatDoorPy22
import Derived.Test.YthoibeajhdhdhaaGreatDoorPy41
import Derived.Test.YthoibeajhdhdhaaGreatDoorPy45
import Derived.Test.YthoibeajhdhdhaaGreatDoorPy46
set_option linter.unusedVariables false
set_option linter.unusedSimpArgs false
namespace Go.Proofs.YthoibeajhdhdhaaGreatDoor
section
open Go.RowKit FracM
/-- steps one behind the other -/
theorem StepR.bind {α β : Type} {s s1 s2 : StP} {f : List Tok → Res α} {h : α → List Tok → Res β} {a : α} {b : β} (h1 : StepR s s1 f a) (h2 : StepR s1 s2 (h a) b) : StepR s s2 (fun ts => andR (f ts) h) b := by
 refine ⟨fun e he => h2.1 _ (h1.1 _ he), fun ts hs => ?_⟩
 obtain ⟨x1, x2⟩ := h1.2 ts hs
 show s2 = sOf (andR (f ts) h) ∧ ∀ u us, andR (f ts) h = .ok (u, us) → u = b
 cases hf : f ts with
 | error e =>
  rw [hf] at x1
  exact ⟨h2.1 _ x1, fun u us hu => (by cases hu)⟩
 | ok p =>
  obtain ⟨a', ts1⟩ := p
  rw [hf] at x1
  obtain rfl := x2 _ _ hf
  exact h2.2 _ x1
theorem StepR.pure {α β : Type} {s s1 : StP} {f : List Tok → Res α} {a : α} (h1 : StepR s s1 f a) (g : α → β) : StepR s s1 (fun ts => andR (f ts) fun x ts' => .ok (g x, ts')) (g a) := by
 refine ⟨h1.1, fun ts hs => ?_⟩
 obtain ⟨x1, x2⟩ := h1.2 ts hs
 show s1 = sOf (andR (f ts) _) ∧ ∀ u us, andR (f ts) _ = .ok (u, us) → u = g a
 cases hf : f ts with
 | error e => rw [hf] at x1; exact ⟨x1, fun u us hu => (by cases hu)⟩
 | ok p =>
  obtain ⟨a', ts1⟩ := p
  rw [hf] at x1
  obtain rfl := x2 _ _ hf
  exact ⟨x1, fun u us hu => (by cases hu; rfl)⟩
theorem StepR.sym {s s1 : StP} {N : Int} {x : List UInt8} (h : sOf (bindS s (symbolM N x)) = s1) : StepR s s1 (symbolM N x) () := StepR.of h.symm fun u us _ => rfl
theorem StepR.num {s s1 : StP} {N lo hi k : Int} (h : sOf (bindS s (numberM N lo hi)) = s1) (hk : intR (bindS s (numberM N lo hi)) = k) : StepR s s1 (numberM N lo hi) k := StepR.of h.symm fun u us hu => by rw [← hk, hu]; rfl
/-- a step's end as a function's end -/
theorem StepR.fin {α : Type} {s s1 : StP} {f : List Tok → Res α} {a : α} (h : StepR s s1 f a) : (∀ e, s1 = .error e → bindS s f = .error e) ∧ ∀ us, s1 = .ok us → bindS s f = .ok (a, us) := by
 match s, h with
 | .error e, h =>
  have := h.1 e rfl
  rw [this]
  exact ⟨fun e' he => (by cases he; rfl), fun us he => (by cases he)⟩
 | .ok ts, h =>
  obtain ⟨x1, x2⟩ := h.2 ts rfl
  show (∀ e, s1 = .error e → f ts = .error e) ∧ ∀ us, s1 = .ok us → f ts = .ok (a, us)
  rw [x1]
  cases hf : f ts with
  | error e => exact ⟨fun e' he => (by cases he; rfl), fun us he => (by cases he)⟩
  | ok p =>
   obtain ⟨a', ts1⟩ := p
   obtain rfl := x2 _ _ hf
   exact ⟨fun e' he => (by cases he), fun us he => (by cases he; rfl)⟩
/-- a group behind its word -/
theorem group_chain {N fn k : Int} {ex : List Tok → Res Tree} {l : List ByteArray} {t : Tree} {s1 s2 s3 s4 : StP} (h2 : StepR s1 s2 (gKM N fn) k) (h3 : StepR s2 s3 (gByM N) l) (h4 : StepR s3 s4 (gKidM N ex) t) :
  StepR s1 s4 (groupM N ex fn) (.node ⟨2, fn, 0, 0, k, 0, 0, ⟨#[]⟩, [], l⟩ [t]) :=
 h2.bind (h3.bind (h4.pure fun t => Tree.node ⟨2, fn, 0, 0, k, 0, 0, ⟨#[]⟩, [], l⟩ [t]))
theorem kid_chain {N : Int} {ex : List Tok → Res Tree} {t : Tree} {s a b s4 : StP} (h1 : sOf (bindS s (symbolM N sOpen)) = a) (h2 : StepR a b ex t) (h3 : sOf (bindS b (symbolM N sShut)) = s4) : StepR s s4 (gKidM N ex) t :=
 (StepR.sym h1).bind (h2.bind ((StepR.sym h3).pure fun _ => t))
theorem gK_chain {N fn k : Int} {s a b s4 : StP} (hf : fn = 4) (h1 : sOf (bindS s (symbolM N sOpen)) = a) (h2 : sOf (bindS a (numberM N 1 4096)) = b) (hk : intR (bindS a (numberM N 1 4096)) = k) (h3 : sOf (bindS b (symbolM N sShut)) = s4) : StepR s s4 (gKM N fn) k := by
 have h := (StepR.sym h1).bind (h := fun _ ts1 => andR (numberM N 1 4096 ts1) fun k ts2 => andR (symbolM N sShut ts2) fun _ ts3 => .ok (k, ts3)) ((StepR.num h2 hk).bind ((StepR.sym h3).pure fun _ => k))
 have e : gKM N fn = fun ts => andR (symbolM N sOpen ts) fun _ ts1 => andR (numberM N 1 4096 ts1) fun k ts2 => andR (symbolM N sShut ts2) fun _ ts3 => .ok (k, ts3) := by funext ts; unfold gKM; rw [if_pos hf]
 rw [e]; exact h
theorem gKM_in {N fn k : Int} {ts us : List Tok} (h : gKM N fn ts = .ok (k, us)) : 0 ≤ k ∧ k ≤ 4096 := by
 unfold gKM at h
 split at h
 ·obtain ⟨_, u1, h1, h⟩ := andR_ok h
  obtain ⟨k', u2, h2, h⟩ := andR_ok h
  obtain ⟨_, u3, h3, h⟩ := andR_ok h
  cases h
  have := numberM_lt h2
  omega
 ·cases h; omega
theorem group_end {N fn : Int} {ex : List Tok → Res Tree} {t : Tree} {s s1 s4 : StP} {x : ByteArray} (hx : strR (bindS s (wordM N)) = x) (h1 : sOf (bindS s (wordM N)) = s1) (hf : findI x grpL5 0 = fn) (h : StepR s1 s4 (groupM N ex fn) t) :
  StepR s s4 (fun ts => andR (wordM N ts) fun x ts1 => groupM N ex (idxT groupsT x) ts1) t := by
 subst hx h1 hf
 match s, h with
 | .error e, h => exact ⟨fun e' he => (by cases he; exact h.1 e rfl), fun ts he => (by cases he)⟩
 | .ok ts, h =>
  refine ⟨fun e' he => (by cases he), fun ts' he => ?_⟩
  cases he
  have hb : bindS (.ok ts) (wordM N) = wordM N ts := rfl
  rw [hb] at h
  show s4 = sOf (andR (wordM N ts) fun x ts1 => groupM N ex (idxT groupsT x) ts1) ∧ ∀ u us, (andR (wordM N ts) fun x ts1 => groupM N ex (idxT groupsT x) ts1) = .ok (u, us) → u = t
  cases hw : wordM N ts with
  | error e =>
   rw [hw] at h
   exact ⟨h.1 e rfl, fun u us hu => (by cases hu)⟩
  | ok p =>
   obtain ⟨xl, ts1⟩ := p
   rw [hw] at h
   have h' : StepR (.ok ts1) s4 (groupM N ex (findI (bsL xl) grpL5 0)) t := h
   rw [find_grp] at h'
   exact h'.2 ts1 rfl
/-- the value of a step, if it has one -/
theorem val_of (r : Res Tree) : ∃ t, ∀ u us, r = .ok (u, us) → u = t := by
 match r with
 | .error e => exact ⟨zeroT, fun u us h => (by cases h)⟩
 | .ok (t, us) => exact ⟨t, fun u us h => (by cases h; rfl)⟩
theorem sOf_ok {α : Type} {r : Res α} {us : List Tok} (h : sOf r = .ok us) : ∃ a, r = .ok (a, us) := by
 match r, h with
 | .ok (a, us'), h => cases h; exact ⟨a, rfl⟩
end
section
open Go.RowKit FracM
end
section
open Go.RowKit FracM
set_option maxHeartbeats 1000000 in
theorem sameTexts_any (A : Option Addr) (n c : Nat) (A' : Option Addr) (n' c' : Nat) (l l' : List ByteArray) (w : World) (h : StrsP w (.slice A n c) l) (h' : StrsP w (.slice A' n' c') l') :
  Calls Tryz.prog 63 #[.slice A n c, .slice A' n' c'] w (RetB (.bool (sameB l l')) w) := by
 obtain ⟨hn, hm⟩ := h.len
 obtain ⟨hn', hm'⟩ := h'.len
 have HS := Box.mk (And.intro h h')
 clear h h'
 by_cases hl : n = n'
 ·subst hl
  have HN := Box.mk (And.intro hn hn')
  clear hn hn'
  have hne : ((n : Int) != (n : Int)) = false := by simp
  go_enter Tryz.func63, Tryz.ntmps63
  go_wp2_with fail
  go_loopw [5] (fun v wr => ∃ k : Nat, k ≤ n ∧ v = .int .i64 (k : Nat) ∧ Below w.heap.size w wr ∧ Box (sameB (l.drop k) (l'.drop k) = sameB l l')) (fun v _ => n - (intOf v).toNat)
  case atStart => exact ⟨0, by omega, rfl, Below.refl _ _, ⟨rfl⟩⟩
  case round =>
   obtain ⟨k, hk, rfl, hb, HA⟩ := hrel
   have HB := Lib.hid hb
   by_cases hlt : k < n
   ·obtain ⟨x, b1, off1, hx, rfl, hb1, p1⟩ := (HS.out.1.below hb).at_ k (by rw [← HN.out.1]; exact hlt)
    obtain ⟨y, b2, off2, hy, rfl, hb2, p2⟩ := (HS.out.2.below hb).at_ k (by rw [← HN.out.2]; exact hlt)
    have HD := Box.mk (And.intro (drop_at hx) (drop_at hy))
    have hlt2 : (k : Int) < (n : Int) := by omega
    clear hb hx hy
    obtain ⟨q, E⟩ : ∃ z, Box ((x.toList == y.toList) = z) := ⟨_, ⟨rfl⟩⟩
    cases q
    ·have hq := E.out
     have hq2 : (x.toList != y.toList) = true := by rw [bne, hq]; rfl
     go_wp2_with fail
     first | go_region | skip
     all_goals
      go_wp2_with fail
      go_ret
      exact ⟨ret_bool (by rw [← HA.out, HD.out.1, HD.out.2, sameB, E.out]; rfl), by first | exact HB.out | exact bdrew HB.out 1⟩
    ·have hq := E.out
     have hq2 : (x.toList != y.toList) = false := by rw [bne, hq]; rfl
     go_wp2_with fail
     first | go_region | skip
     all_goals
      go_wp2_with fail
      go_roundw
      case rel => exact ⟨k + 1, by omega, by go_num, by first | exact HB.out | exact bdrew HB.out 1, ⟨by rw [← HA.out, HD.out.1, HD.out.2, sameB, E.out]; rfl⟩⟩
      case measure => simp [intOf]; omega
   ·have hlt2 : ¬ (k : Int) < (n : Int) := by omega
    clear hb
    go_wp2_with fail
    go_ret
    exact ⟨ret_bool (by rw [← HA.out, List.drop_eq_nil_of_le (by rw [← HN.out.1]; omega), List.drop_eq_nil_of_le (by rw [← HN.out.2]; omega)]; rfl), HB.out⟩
 ·have hne : ((n : Int) != (n' : Int)) = true := by simp; omega
  have E : Box (sameB l l' = false) := ⟨by rw [same_eq]; apply decide_eq_false; intro h; rw [h] at hn; omega⟩
  go_enter Tryz.func63, Tryz.ntmps63
  go_wp2_with fail
  go_ret
  exact ⟨ret_bool E.out.symm, Below.refl _ _⟩
set_option maxHeartbeats 2000000 in
set_option maxRecDepth 100000 in
theorem rmats_any (A1 A2 : Option Addr) (c1 c2 : Nat) (P Q : Nat → Nat → Prop) (a b : List Mat) (w : World) (ha : SeqP w P 3 (.slice A1 a.length c1) a.length (a.flatMap matCells)) (hb : SeqP w Q 3 (.slice A2 b.length c2) b.length (b.flatMap matCells)) :
  Calls Tryz.prog 62 #[.slice A1 a.length c1, .slice A2 b.length c2] w (RetB (.bool (matsB a b)) w) := by
 have l1 := ha.form
 have l2 : a.length ≤ 9223372036854775807 := by obtain ⟨_, _, e, h⟩ := l1; cases e; exact h
 have l3 : b.length ≤ 9223372036854775807 := by obtain ⟨_, _, e, h⟩ := hb.form; cases e; exact h
 clear l1
 have HA := Box.mk ha
 have HB := Box.mk hb
 clear ha hb
 obtain ⟨q, hq⟩ : ∃ q, matsB a b = q := ⟨_, rfl⟩
 have HQ := Box.mk hq
 rw [hq]
 by_cases hn : a.length = b.length
 ·have HN := Box.mk hn
  obtain ⟨m, hm⟩ : ∃ m, a.length = m := ⟨_, rfl⟩
  have hm2 : b.length = m := by omega
  have HM := Box.mk (And.intro hm hm2)
  rw [hm, hm2]
  rw [hm] at HA l2
  rw [hm2] at HB
  clear hn hm hm2 hq l3
  go_enter Tryz.func62, Tryz.ntmps62
  go_wp2_with fail
  go_loopw [5] (fun v wr => ∃ k n : Nat, k ≤ m ∧ v = .int .i64 (k : Nat) ∧ wr = w.drewN n ∧ Box (matsB (a.drop k) (b.drop k) = q)) (fun v _ => m - (intOf v).toNat)
  case atStart => exact ⟨0, 0, by omega, rfl, rfl, HQ⟩
  case round =>
   obtain ⟨k, n, hk, rfl, rfl, HD⟩ := hrel
   by_cases hlt : k < m
   ·obtain ⟨x, hx⟩ : ∃ x, a[k]? = some x := ⟨a[k]'(by have := HM.out; omega), List.getElem?_eq_getElem _⟩
    obtain ⟨y, hy⟩ : ∃ y, b[k]? = some y := ⟨b[k]'(by have := HM.out; omega), List.getElem?_eq_getElem _⟩
    obtain ⟨g1, o1, rfl, x0, x1, x2⟩ := SeqP.mat HA.out k x hx
    obtain ⟨g2, o2, rfl, y0, y1, y2⟩ := SeqP.mat HB.out k y hy
    have HDD : Box (a.drop k = x :: a.drop (k + 1) ∧ b.drop k = y :: b.drop (k + 1)) := ⟨by rw [List.drop_eq_getElem_cons (by have := HM.out; omega), (List.getElem?_eq_some_iff.1 hx).2], by rw [List.drop_eq_getElem_cons (by have := HM.out; omega), (List.getElem?_eq_some_iff.1 hy).2]⟩
    obtain ⟨z, hz⟩ : ∃ z, matB x y = z := ⟨_, rfl⟩
    have HZ := Box.mk hz
    obtain ⟨xa, xb, xc⟩ := x
    obtain ⟨ya, yb, yc⟩ := y
    simp only at x0 x1 x2 y0 y1 y2
    have hlt2 : (k : Int) < (m : Int) := by omega
    have hlt0 : (0 : Int) ≤ (k : Int) := by omega
    have hqq : ∀ W : World, (Op.equalIn 10000 91 (.agg #[.string xa, .int .i64 xb, .string xc]) (.agg #[.string ya, .int .i64 yb, .string yc])).run Tryz.prog W = .ok z W := fun W => by rw [eq_mat, HZ.out]
    clear hx hy hz
    go_upto_region 6 with (fail)
    go_quiet (fail)
    cases z
    ·go_wp2_with fail
     go_ret
     exact ⟨ret_bool (by rw [← HD.out, HDD.out.1, HDD.out.2, matsB, HZ.out]; rfl), bdrew (below_drewN w n) _⟩
    ·go_wp2_with fail
     go_roundw
     case rel => exact ⟨k + 1, n + nq, by omega, by go_num, rfl, ⟨by rw [← HD.out, HDD.out.1, HDD.out.2, matsB, HZ.out]; simp⟩⟩
     case measure => simp [intOf]; omega
   ·have hlt2 : ¬ (k : Int) < (m : Int) := by omega
    go_wp2_with fail
    go_ret
    exact ⟨ret_bool (by rw [← HD.out, List.drop_eq_nil_of_le (by have := HM.out; omega), List.drop_eq_nil_of_le (by have := HM.out; omega)]; rfl), below_drewN w n⟩
 ·have hn2 : ((a.length : Int) != (b.length : Int)) = true := by simp; omega
  have hq2 := matsB_len hn
  have HE : Box (q = false) := ⟨by rw [← hq, hq2]⟩
  clear hn hq hq2
  go_enter Tryz.func62, Tryz.ntmps62
  go_wp2_with fail
  go_ret
  exact ⟨ret_bool HE.out.symm, Below.refl _ _⟩
end
section
open Go.RowKit FracM
end
section
open Go.RowKit FracM
set_option maxHeartbeats 1000000 in
set_option maxRecDepth 100000 in
theorem rshow0_any (t : Tree) (P : Nat → Nat → Prop) (w : World) (s : Sl) (hT : TreeAt w P t s) (hc : chk t = 0) (hp : prtB t = true) (hn : nds t ≤ 400) : Calls Tryz.prog 11 #[.agg (ndC t.d s.1 s.2.1 s.2.2)] w (RetB (.string (bsL (showT t))) w) := by
 have HE := Box.mk (showR_top hc)
 have HH := Box.mk (And.intro hc (And.intro hp hn))
 obtain ⟨d, ks⟩ := t
 obtain ⟨mv, bv, kv⟩ := s
 have HN := Box.mk (N1.start hT)
 clear hT hc hp hn
 simp only [Tree.d]
 go_enter Tryz.func11, Tryz.ntmps11
 go_upto_region 1 with (fail)
 generalize w.alloc (.cells (ndC d _ _ _) 29) = wr at HN ⊢
 obtain ⟨c0, c1, c2, c3, c4, c5, c6, c7, c8, c9, c10⟩ := HN.out.c
 simp only [Nat.zero_add] at c1 c2 c3 c4 c5 c6 c7 c8 c9 c10
 go_wp2_with fail
 refine (rshow_any false (.node d ks) 1 1 P _ (mv, bv, kv) (by omega) rfl HH.out.1 HH.out.2.1 HH.out.2.2 HN.out.nod.tree).mono ?_
 rintro e w1 ⟨rfl, hb⟩
 rw [HE.out]
 have HN1 := Box.mk (HN.out.next hb)
 clear hb c0 c1 c2 c3 c4 c5 c6 c7 c8 c9 c10
 go_wp2_with fail
 go_ret
 exact ⟨rfl, HN1.out.below⟩
end
end Go.Proofs.YthoibeajhdhdhaaGreatDoor
