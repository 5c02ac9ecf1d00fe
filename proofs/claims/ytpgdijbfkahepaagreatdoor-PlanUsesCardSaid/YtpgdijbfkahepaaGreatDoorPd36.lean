/- Contracts, packed: Kv. -/
import Derived.Test.YtpgdijbfkahepaaGreatDoorPd35
set_option linter.unusedVariables false
set_option linter.unusedSimpArgs false
namespace Go.Proofs.YtpgdijbfkahepaaGreatDoor
section
open Go.RowKit FracM
def grpN (fn k : Int) (l : List ByteArray) : Nd := ⟨2, fn, 0, 0, k, 0, 0, ⟨#[]⟩, [], l⟩
/-- a group with its names, in memory -/
structure GrpB (g : Nat) (en : Int) (w W : World) (us : List Tok) (fn k : Int) (l : List ByteArray) (bv : Value) : Prop where
 st : E2 g en w W us (grpN fn k l) nilV bv nilV
 row : W.ownsRow (w.heap.size + 2) 9 1 bv l.length (l.map Value.string)
section
variable {g : Nat} {en : Int} {w W W' : World} {ts us : List Tok} {fn k : Int} {l : List ByteArray} {bv : Value}
theorem GrpB.step (h : GrpB g en w W ts fn k l bv) (ho : Only g W W') (hp : PS W' g en us) : GrpB g en w W' us fn k l bv :=
 ⟨h.st.step ho hp, own_only h.row ho (by have := h.st.g0; omega)⟩
theorem GrpB.drew (h : GrpB g en w W us fn k l bv) : GrpB g en w W.drew us fn k l bv := ⟨h.st.drew, own_below h.row (below_drewN _ 1)⟩
theorem GrpB.seq (h : GrpB g en w W us fn k l bv) : SeqP W (fun b _ => w.heap.size + 2 ≤ b) 1 bv l.length (l.map Value.string) := SeqP.of_own h.row fun b c hb _ => hb
/-- a name more -/
theorem GrpB.app {w1 w8 : World} (h : GrpB g en w w1 us fn k l bv) {m : ByteArray} {g8 cap8 : Nat} {o : Obj}
  (hown : w8.ownsRow (w.heap.size + 2) 9 1 (.slice (some ⟨g8, 0, none⟩) (l.length + 1) cap8) (l.length + 1) (l.map Value.string ++ [.string m])) (hg : (w1.alloc o).grownBy w8 bv.ownBlock) :
  E2 g en w w8 us (grpN fn k l) nilV bv nilV ∧ GrpB g en w (w8.setCell ⟨w.heap.size + 1, 9, none⟩ (.slice (some ⟨g8, 0, none⟩) (l.length + 1) cap8)) us fn k (l ++ [m]) (.slice (some ⟨g8, 0, none⟩) (l.length + 1) cap8) := by
 have hz := h.st.e.lt
 have hb : Below (w.heap.size + 2) w1 w8 := ((bel1 w1 o).mono (by omega)).trans (Only.grown (g := 0) hg (w.heap.size + 2) (own_ge h.row) (by simp; omega))
 have he := h.st.low hb
 refine ⟨he, he.put 9 _ rfl, ?_⟩
 have := own_only hown (Only.setCell (g := w.heap.size + 1) 9 (.slice (some ⟨g8, 0, none⟩) (l.length + 1) cap8)) (by omega)
 simpa using this
end
theorem byM_lt {en : Int} {l : List ByteArray} {ts us : List Tok} {m : ByteArray} (h : byM en l ts = .ok (m, us)) : l.length < 8 := by
 unfold byM at h
 split at h
 ·split at h
  ·cases h
  ·omega
 ·cases h
theorem byM_ok {en : Int} {l : List ByteArray} {ts us : List Tok} {m : ByteArray} (ht : ToksOk ts) (h : byM en l ts = .ok (m, us)) : m.size ≤ 2000 := by
 unfold byM at h
 split at h
 ·split at h
  ·cases h
  ·split at h
   ·split at h
    ·cases h
    ·cases h; exact ht.head
   ·split at h
    ·cases h
    ·cases h; exact ht.head
 ·cases h
theorem gBy_one {en : Int} {ts us : List Tok} (h1 : isT ts 0 sBy = true) (hs : symbolM en sOpen ts.tail = .ok ((), us)) : gByM en ts = if isT us 3 sShut then .ok ([], us.tail) else andR (andR (byM en [] us) fun x ts' => if isT ts' 3 sComma then bysM us.length en [x] ts'.tail else .ok ([x], ts')) fun l ts2 => andR (symbolM en sShut ts2) fun _ ts3 => .ok (l, ts3) := by
 unfold gByM; rw [if_pos h1, hs]; rfl
/-- a group with its names and its kid -/
structure GrpK (g : Nat) (en : Int) (w W : World) (us : List Tok) (fn k : Int) (l : List ByteArray) (bv : Value) (kb : Nat) (t : Tree) (m2 b2 k2 : Value) : Prop where
 st : E2 g en w W us (grpN fn k l) nilV bv (.slice (some ⟨kb, 0, none⟩) 1 1)
 row : W.ownsRow (w.heap.size + 2) 9 1 bv l.length (l.map Value.string)
 kid : Blk W kb 35 (ndC t.d m2 b2 k2)
 tr : TreeAt W (fun b _ => w.heap.size + 2 ≤ b) t (m2, b2, k2)
 hk : w.heap.size + 2 ≤ kb
section
variable {g : Nat} {en : Int} {w W W' : World} {ts us : List Tok} {fn k : Int} {l : List ByteArray} {bv m2 b2 k2 : Value} {kb : Nat} {t : Tree}
theorem GrpK.step (h : GrpK g en w W ts fn k l bv kb t m2 b2 k2) (ho : Only g W W') (hp : PS W' g en us) : GrpK g en w W' us fn k l bv kb t m2 b2 k2 := by
 have hg := h.st.g0
 have hk := h.hk
 exact ⟨h.st.step ho hp, own_only h.row ho (by omega), ho.blk h.kid (by omega), h.tr.keep (Agree.of_only ho fun b e hb => by omega), h.hk⟩
theorem grpK_of {w3 w4 : World} {e2 : Nd} {es2 : List Tree} (h : GrpB g en w w4 us fn k l bv) (ht : TreeAt w4 (fun b _ => w3.heap.size ≤ b) (.node e2 es2) (m2, b2, k2)) (h3 : w.heap.size + 2 ≤ w3.heap.size) :
  GrpK g en w ((w4.alloc (.cells (ndC e2 m2 b2 k2) 35)).setCell ⟨w.heap.size + 1, 10, none⟩ (.slice (some ⟨w4.heap.size, 0, none⟩) 1 1)) us fn k l bv w4.heap.size (.node e2 es2) m2 b2 k2 := by
 have hz := h.st.e.lt
 refine ⟨(h.st.next (bel1 _ _)).put 10 _ rfl, own_only (own_below h.row (bel1 _ _)) (Only.setCell _ _) (by omega), (Blk.new _ _ _).far (p := ⟨w.heap.size + 1, 10, none⟩) (by simp only; omega) _, ?_, by omega⟩
 exact ((ht.belo (bel1 _ _)).mono (Q := fun b _ => w.heap.size + 2 ≤ b) fun b e _ hb => by omega).keep (Agree.of_only (Only.setCell (g := w.heap.size + 1) _ _) fun b e hb => by omega)
theorem GrpK.tree {WF : World} (h : GrpK g en w W us fn k l bv kb t m2 b2 k2) (hd : NdOk (grpN fn k l)) (ho : Only w.heap.size W WF) : TreeAt WF (fun b _ => w.heap.size ≤ b) (.node (grpN fn k l) [t]) (nilV, bv, .slice (some ⟨kb, 0, none⟩) 1 1) := by
 have hk := h.hk
 have ag : Agree (fun b _ => w.heap.size + 2 ≤ b) W WF := Agree.of_only ho fun b e hb => by omega
 have hm : ∀ b (e : Nat), b < WF.heap.size → w.heap.size + 2 ≤ b → w.heap.size ≤ b := fun b e _ hb => by omega
 refine Nod.tree ⟨hd, SeqP.nil _ _ _, ?_, [(m2, b2, k2)], rfl, ?_, ?_⟩
 ·exact ((SeqP.of_own (P := fun b _ => w.heap.size + 2 ≤ b) h.row fun b c hb _ => hb).keep ag).mono hm
 ·have hb : Blk WF kb 35 (ndC t.d m2 b2 k2) := ho.blk h.kid (by omega)
  have := SeqP.of_blk (P := fun b _ => w.heap.size ≤ b) (n := 1) (size := 11) hb rfl (by omega) (by omega)
  simpa [ndL] using this
 ·intro i t' c h1 h2
  match i, h1, h2 with
  | 0, h1, h2 =>
   simp at h1 h2
   subst h1 h2
   exact (h.tr.keep ag).mono hm
  | j + 1, h1, h2 => simp at h1
end
theorem gKid_flat (en : Int) (ex : List Tok → Res Tree) (us : List Tok) (d : Nd) : (andR (gKidM en ex us) fun t ts3 => .ok (Tree.node d [t], ts3)) = andR (symbolM en sOpen us) fun _ ts1 => andR (ex ts1) fun t ts2 => andR (symbolM en sShut ts2) fun _ ts3 => .ok (Tree.node d [t], ts3) := by
 unfold gKidM
 cases symbolM en sOpen us with
 | error f => rfl
 | ok p =>
  obtain ⟨a, ts1⟩ := p
  show (andR (andR (ex ts1) _) _) = andR (ex ts1) _
  cases ex ts1 with
  | error f => rfl
  | ok p =>
   obtain ⟨t, ts2⟩ := p
   show (andR (andR (symbolM en sShut ts2) _) _) = andR (symbolM en sShut ts2) _
   cases symbolM en sShut ts2 with
   | error f => rfl
   | ok p => rfl
set_option maxRecDepth 100000 in
set_option maxHeartbeats 4000000 in
theorem pgroup_any (g : Nat) (en fn : Int) (ex : List Tok → Res Tree) (hex : ∀ us, Sho (ex us) us) (ts : List Tok) (w : World) (h : PS w g en ts) (hw : WordsP w g) (hf : 0 ≤ fn ∧ fn ≤ 4)
  (hE : ∀ us w, us.length ≤ ts.length → PS w g en us → WordsP w g → Calls Tryz.prog 40 #[.pointer (some ⟨g, 0, none⟩)] w (RetX g en w (ex us) (VTree w.heap.size))) :
  Calls Tryz.prog 93 #[.pointer (some ⟨g, 0, none⟩), .int .i64 fn] w (RetX g en w (groupM en ex fn ts) (VTree w.heap.size)) := by
 obtain ⟨R, HR⟩ : ∃ R, Box (groupM en ex fn ts = R) := ⟨_, ⟨rfl⟩⟩
 rw [HR.out]
 have HEX := Box.mk hE
 have H0 : Box (E2 g en w ((w.alloc (.cells zeroC 35)).alloc (.cells (ndC (grpN fn 0 []) nilV nilV nilV) 35)) ts (grpN fn 0 []) nilV nilV nilV) := ⟨E2.start h hw⟩
 have HTK : Box (ToksOk ts) := ⟨h.ok⟩
 have HM0 : Box (groupM en ex fn ts = andR (gKM en fn ts) fun k ts1 => andR (gByM en ts1) fun l ts2 => andR (gKidM en ex ts2) fun t ts3 => .ok (.node (grpN fn k l) [t], ts3)) := ⟨rfl⟩
 clear h hw hE
 go_enter Tryz.func93, Tryz.ntmps93
 go_upto_region 2 with (fail)
 show Code.wp _ _ _ _ ((w.alloc (.cells zeroC 35)).alloc (.cells (ndC (grpN fn 0 []) nilV nilV nilV) 35))
 generalize (w.alloc (.cells zeroC 35)).alloc (.cells (ndC (grpN fn 0 []) nilV nilV nilV) 35) = W0 at H0 ⊢
 go_upto_if 9 with (fail)
 go_cut [] (fun wx => ∃ (k : Int) (us : List Tok), gKM en fn ts = .ok (k, us) ∧ Box (E2 g en w wx us (grpN fn k []) nilV nilV nilV) ∧ 0 ≤ k ∧ k ≤ 4096)
 case first =>
  by_cases h4 : fn = 4
  ·subst h4
   have HG : Box (gKM en 4 ts = andR (symbolM en sOpen ts) fun _ ts1 => andR (numberM en 1 4096 ts1) fun k ts2 => andR (symbolM en sShut ts2) fun _ ts3 => .ok (k, ts3)) := ⟨rfl⟩
   go_wp2_with fail
   refine (psymbol_any g en sOpen _ rfl ts _ H0.out.ps).mono ?_
   intro e w1 hx
   rcases hx.cases with ⟨f, hs, rfl, ho⟩ | ⟨a, us, hs, hp, rfl, ho⟩
   ·have hm : groupM en ex 4 ts = .error f := by rw [HM0.out, HG.out, hs]; rfl
    go_wp2_with fail
    exact ⟨rfl, RetX.err (HR.out.symm.trans hm) (H0.out.only.trans ho)⟩
   have HG1 : Box (gKM en 4 ts = andR (numberM en 1 4096 us) fun k ts2 => andR (symbolM en sShut ts2) fun _ ts3 => .ok (k, ts3)) := ⟨by rw [HG.out, hs]; rfl⟩
   have H1 := Box.mk (H0.out.step ho hp)
   clear hs hp ho hx H0 HG
   go_wp2_with fail
   refine (pnumber_any g en 1 4096 us _ H1.out.ps).mono ?_
   intro e w2 hx
   rcases hx.cases with ⟨f, hs, rfl, ho⟩ | ⟨k, vs, hs, hp, rfl, ho⟩
   ·have hm : groupM en ex 4 ts = .error f := by rw [HM0.out, HG1.out, hs]; rfl
    go_wp2_with fail
    exact ⟨rfl, RetX.err (HR.out.symm.trans hm) (H1.out.only.trans ho)⟩
   have HG2 : Box (gKM en 4 ts = andR (symbolM en sShut vs) fun _ ts3 => .ok (k, ts3)) := ⟨by rw [HG1.out, hs]; rfl⟩
   have HK := numberM_in hs
   have H2 := Box.mk (H1.out.step ho hp)
   obtain ⟨c0, c1, c2, c3, c4, c5, c6, c7, c8, c9, c10⟩ := H2.out.c
   simp only [Nat.zero_add] at c1 c2 c3 c4 c5 c6 c7 c8 c9 c10
   have ef := H2.out.e.frozen
   have H3 : Box (E2 g en w (w2.setCell ⟨w.heap.size + 1, 4, none⟩ (.int .i64 k)) vs (grpN 4 k []) nilV nilV nilV) := ⟨H2.out.put 4 (.int .i64 k) rfl⟩
   clear hs hp ho hx H1 HG1 H2
   go_upto_region 5 with (fail)
   clear c0 c1 c2 c3 c4 c5 c6 c7 c8 c9 c10 ef
   generalize w2.setCell ⟨w.heap.size + 1, 4, none⟩ (.int .i64 k) = W3 at H3 ⊢
   go_wp2_with fail
   refine (psymbol_any g en sShut _ rfl vs _ H3.out.ps).mono ?_
   intro e w4 hx
   rcases hx.cases with ⟨f, hs, rfl, ho⟩ | ⟨a, xs, hs, hp, rfl, ho⟩
   ·have hm : groupM en ex 4 ts = .error f := by rw [HM0.out, HG2.out, hs]; rfl
    go_wp2_with fail
    exact ⟨rfl, RetX.err (HR.out.symm.trans hm) (H3.out.only.trans ho)⟩
   have HG3 : Box (gKM en 4 ts = .ok (k, xs)) := ⟨by rw [HG2.out, hs]; rfl⟩
   have H4 := Box.mk (H3.out.step ho hp)
   clear hs hp ho hx H3 HG2
   go_wp2_with fail
   go_meet
   exact ⟨k, xs, HG3.out, H4, by omega, by omega⟩
  ·have h4' : (fn == 4) = false := by simpa using h4
   have hG : gKM en fn ts = .ok (0, ts) := by unfold gKM; rw [if_neg h4]
   go_wp2_with fail
   go_meet
   exact ⟨0, ts, hG, H0, by omega, by omega⟩
 case rest =>
  clear H0
  obtain ⟨k, us0, hk, H1, hk0, hk1⟩ := hcut
  rename World => W1
  have HM1 : Box (groupM en ex fn ts = andR (gByM en us0) fun l ts2 => andR (gKidM en ex ts2) fun t ts3 => .ok (.node (grpN fn k l) [t], ts3)) := ⟨by rw [HM0.out, hk]; rfl⟩
  have hu0 := gKM_len en fn ts _ _ hk
  clear hk HM0
  go_upto_if 18 with (go_at_call 77; refine (pis_any g en 0 sBy _ rfl us0 _ H1.out.ps).mono ?_; rintro e w1 ⟨rfl, rfl⟩)
  go_cut [] (fun wx => ∃ (l : List ByteArray) (bv : Value) (us : List Tok), Box (groupM en ex fn ts = andR (gKidM en ex us) fun t ts3 => .ok (.node (grpN fn k l) [t], ts3)) ∧ Box (GrpB g en w wx us fn k l bv) ∧ Box (∀ x ∈ l, x.size ≤ 2000) ∧ us.length ≤ ts.length)
  case first =>
   cases h1 : isT us0 0 sBy
   ·go_wp2_with fail
    go_meet
    exact ⟨[], nilV, us0, ⟨by rw [HM1.out]; unfold gByM; rw [h1, if_neg Bool.false_ne_true]; rfl⟩, ⟨⟨H1.out, World.ownsRow_nil _ _ _ _⟩⟩, ⟨by simp⟩, hu0⟩
   ·obtain ⟨t, r, rfl⟩ := isT_cons h1
    go_wp2_with fail
    refine (ptake_any g en t r _ H1.out.ps).mono ?_
    rintro e w2 ⟨rfl, hp, ho⟩
    have H2 := Box.mk (H1.out.step ho hp)
    clear hp ho H1
    go_wp2_with fail
    refine (psymbol_any g en sOpen _ rfl r _ H2.out.ps).mono ?_
    intro e w3 hx
    rcases hx.cases with ⟨f, hs, rfl, ho⟩ | ⟨a, us, hs, hp, rfl, ho⟩
    ·have hm : groupM en ex fn ts = .error f := by rw [HM1.out]; unfold gByM; rw [if_pos h1]; simp only [List.tail_cons]; rw [hs]; rfl
     go_wp2_with fail
     exact ⟨rfl, RetX.err (HR.out.symm.trans hm) (H2.out.only.trans ho)⟩
    have hul := symbolM_len _ _ _ _ _ hs
    have hul2 : us.length + 1 < ts.length + 1 := by simp at hu0; omega
    have HG : Box (groupM en ex fn ts = andR (if isT us 3 sShut then .ok ([], us.tail) else andR (andR (byM en [] us) fun x ts' => if isT ts' 3 sComma then bysM us.length en [x] ts'.tail else .ok ([x], ts')) fun l ts2 => andR (symbolM en sShut ts2) fun _ ts3 => .ok (l, ts3)) fun l ts2 => andR (gKidM en ex ts2) fun t ts3 => .ok (.node (grpN fn k l) [t], ts3)) := ⟨by rw [HM1.out, gBy_one h1 hs]⟩
    have H3 := Box.mk (H2.out.step ho hp)
    clear hs hp ho hx H2 HM1
    cases h2 : isT us 3 sShut
    ·go_wp2_with fail
     refine (ptry_any g en sShut _ rfl us _ H3.out.ps).mono ?_
     rintro e w4 ⟨rfl, hp, ho⟩
     rw [h2, if_neg Bool.false_ne_true] at hp
     have H2 : Box (GrpB g en w w4 us fn k [] nilV) := ⟨⟨H3.out.step ho hp, World.ownsRow_nil _ _ _ _⟩⟩
     have HM2 : Box (groupM en ex fn ts = andR (andR (andR (byM en [] us) fun x ts' => if isT ts' 3 sComma then bysM us.length en [x] ts'.tail else .ok ([x], ts')) fun l ts2 => andR (symbolM en sShut ts2) fun _ ts3 => .ok (l, ts3)) fun l ts2 => andR (gKidM en ex ts2) fun t ts3 => .ok (.node (grpN fn k l) [t], ts3)) := ⟨by rw [HG.out, h2]; rfl⟩
     rw [h2]
     clear hp ho H3 HG h2
     go_wp2_with fail
     obtain ⟨j0, hj, hy0, hy1, hy2⟩ := info_parts strInfo
     have HJ := Box.mk (And.intro hj (And.intro hy0 (And.intro hy1 hy2)))
     clear hj hy0 hy1 hy2
     have c9 := H2.out.st.c.2.2.2.2.2.2.2.2.2.1
     simp only [Nat.zero_add] at c9
     have HS0 := Box.mk H2.out.drew
     refine wp_region_T (S := fun w' => w'.cell? ⟨w.heap.size + 1, 9, none⟩ = some (nilV)) 9 (by kernel_rfl) (by exact cell_drew c9) (fun hHeld => ?_)
     refine wpAnyT_take (i := 0) (v := ?_) rfl (by kernel_rfl) (by kernel_rfl) (by kernel_rfl) (fun _ _ _ h => h) (by kernel_rfl) (by decide) (Or.inl ⟨by rfl, ?_⟩) (by assumption) ?_
     rotate_left
     ·(intro wq hSw; (try dsimp only at hSw); (try obtain ⟨hS1, hS2, hS3, hS4⟩ := hSw); (try obtain ⟨hS1, hS2⟩ := hSw); go_simp)
      all_goals with_reducible rfl
     (try simp only [List.getElem_toArray, List.getElem_cons_zero, List.getElem_cons_succ, Act.put, List.setIfInBounds_toArray, List.set_cons_zero, List.set_cons_succ])
     refine wpAnyT_take (i := 1) (v := ?_) rfl (by kernel_rfl) (by kernel_rfl) (by kernel_rfl) (fun _ _ _ h => h) (by kernel_rfl) (by decide) (Or.inl ⟨by rfl, ?_⟩) (by assumption) ?_
     rotate_left
     ·(intro wq hSw; (try dsimp only at hSw); (try obtain ⟨hS1, hS2, hS3, hS4⟩ := hSw); (try obtain ⟨hS1, hS2⟩ := hSw); go_simp)
      all_goals with_reducible rfl
     (try simp only [List.getElem_toArray, List.getElem_cons_zero, List.getElem_cons_succ, Act.put, List.setIfInBounds_toArray, List.set_cons_zero, List.set_cons_succ])
     refine wpAnyT_take (i := 2) (v := ?_) rfl (by kernel_rfl) (by kernel_rfl) (by kernel_rfl) (fun _ _ _ h => h) (by kernel_rfl) (by decide) (Or.inl ⟨by rfl, ?_⟩) (by assumption) ?_
     rotate_left
     ·(intro wq hSw; (try dsimp only at hSw); (try obtain ⟨hS1, hS2, hS3, hS4⟩ := hSw); (try obtain ⟨hS1, hS2⟩ := hSw); go_simp)
      all_goals with_reducible rfl
     (try simp only [List.getElem_toArray, List.getElem_cons_zero, List.getElem_cons_succ, Act.put, List.setIfInBounds_toArray, List.set_cons_zero, List.set_cons_succ])
     refine wpAnyT_take (i := 3) (v := ?_) rfl (by kernel_rfl) (by kernel_rfl) (by kernel_rfl) (fun _ _ _ h => h) (by kernel_rfl) (by decide) (Or.inl ⟨by rfl, ?_⟩) (by assumption) ?_
     rotate_left
     ·(intro wq hSw; (try dsimp only at hSw); (try obtain ⟨hS1, hS2, hS3, hS4⟩ := hSw); (try obtain ⟨hS1, hS2⟩ := hSw); go_simp)
      all_goals with_reducible rfl
     (try simp only [List.getElem_toArray, List.getElem_cons_zero, List.getElem_cons_succ, Act.put, List.setIfInBounds_toArray, List.set_cons_zero, List.set_cons_succ])
     refine wpAnyT_take (i := 4) (v := ?_) rfl (by kernel_rfl) (by kernel_rfl) (by kernel_rfl) (fun _ _ _ h => h) (by kernel_rfl) (by decide) (Or.inl ⟨by rfl, ?_⟩) (by assumption) ?_
     rotate_left
     ·(intro wq hSw; (try dsimp only at hSw); (try obtain ⟨hS1, hS2, hS3, hS4⟩ := hSw); (try obtain ⟨hS1, hS2⟩ := hSw); go_simp)
      all_goals with_reducible rfl
     (try simp only [List.getElem_toArray, List.getElem_cons_zero, List.getElem_cons_succ, Act.put, List.setIfInBounds_toArray, List.set_cons_zero, List.set_cons_succ])
     refine wpAnyT_one 5 (by kernel_rfl) rfl (fun K' hK' => ?_)
     (try rw [if_pos (by rfl)])
     go_simp
     refine (pby_any g en _ _ HS0.out.st.ps (nilV) [] _ HS0.out.seq).mono ?_
     intro e1 w1 hx
     rcases hx.cases with ⟨f, hs, rfl, ho⟩ | ⟨m, vs, hs, hp, rfl, ho⟩
     ·have hm : groupM en ex fn ts = .error f := by rw [HM2.out, hs]; rfl
      go_wp2_with fail
      exact ⟨rfl, RetX.err (HR.out.symm.trans hm) ((H2.out.st.only.trans (Only.of_below (below_drewN _ 1))).trans ho)⟩
     have HS1 := Box.mk (HS0.out.step ho hp)
     have q0 := HS1.out.st.c.2.2.2.2.2.2.2.2.2.1
     simp only [Nat.zero_add] at q0
     have HM := Box.mk hs
     clear hs hp ho hx HS0
     go_wp2_with fail
     refine hK'.out _ _ (fun _ => q0) (fun hHq => ?_)
     clear hHeld
     have hHeld := hHq (by decide)
     clear hHq hK' K'
     (try simp only [List.getElem_toArray, List.getElem_cons_zero, List.getElem_cons_succ, Act.put, List.setIfInBounds_toArray, List.set_cons_zero, List.set_cons_succ])
     refine wpAnyT_one 6 (by kernel_rfl) rfl (fun K' hK' => ?_)
     (try rw [if_pos (by rfl)])
     go_simp
     refine hK'.out _ _ (fun _ => (cell_alloc' _ q0)) (fun hHq => ?_)
     clear hHeld
     have hHeld := hHq (by decide)
     clear hHq hK' K'
     (try simp only [List.getElem_toArray, List.getElem_cons_zero, List.getElem_cons_succ, Act.put, List.setIfInBounds_toArray, List.set_cons_zero, List.set_cons_succ])
     refine wpAnyT_one 7 (by kernel_rfl) rfl (fun K' hK' => ?_)
     (try rw [if_pos (by rfl)])
     refine wp_append_lies _ _ _ 32 rfl (w.heap.size + 2) 9 j0 _ 1 16 Tryz.underlying32 HJ.out.1 HJ.out.2.1 HJ.out.2.2.1 HJ.out.2.2.2 rfl (by decide) (nilV) 0 ([].map Value.string) rfl (by exact own_below HS1.out.row (bel1 w1 _)) ⟨w1.heap.size, 0, none⟩ 1 1 [.string m] rfl rfl (cells1 _ _ _) (by intro u hu; simp at hu; subst hu; rfl) (by decide) (by unfold maxLen; omega) (by omega) (by have := HS1.out.st.only.size; have := HS1.out.st.e.lt; simp; omega) (w1.heap.size + 1) (by simp) ?_
     intro g8 cap8 w8 hown8 hgr8 hat8 hlt8
     have HS8 := Box.mk (GrpB.app HS1.out hown8 hgr8)
     have f0 := HS8.out.1.c.2.2.2.2.2.2.2.2.2.1
     have ef8 := HS8.out.1.e.frozen
     simp only [Nat.zero_add] at f0
     clear hown8 hgr8 hat8 hlt8
     refine hK'.out _ _ (fun _ => f0) (fun hHq => ?_)
     clear hHeld
     have hHeld := hHq (by decide)
     clear hHq hK' K'
     (try simp only [List.getElem_toArray, List.getElem_cons_zero, List.getElem_cons_succ, Act.put, List.setIfInBounds_toArray, List.set_cons_zero, List.set_cons_succ])
     refine wpAnyT_take (i := 8) (v := ?_) rfl (by kernel_rfl) (by kernel_rfl) (by kernel_rfl) (fun _ _ _ h => h) (by kernel_rfl) (by decide) (Or.inl ⟨by rfl, ?_⟩) (by assumption) ?_
     rotate_left
     ·(intro wq hSw; (try dsimp only at hSw); (try obtain ⟨hS1, hS2, hS3, hS4⟩ := hSw); (try obtain ⟨hS1, hS2⟩ := hSw); go_simp)
      all_goals with_reducible rfl
     (try simp only [List.getElem_toArray, List.getElem_cons_zero, List.getElem_cons_succ, Act.put, List.setIfInBounds_toArray, List.set_cons_zero, List.set_cons_succ])
     refine wpAnyT_one 9 (by kernel_rfl) rfl (fun K' hK' => ?_)
     (try rw [if_pos (by rfl)])
     go_simp
     refine hK'.out _ _ (fun h => absurd rfl h) (fun _ => ?_)
     clear hHeld hK' K'
     (try simp only [List.getElem_toArray, List.getElem_cons_zero, List.getElem_cons_succ, Act.put, List.setIfInBounds_toArray, List.set_cons_zero, List.set_cons_succ])
     refine wpAnyT_done (by kernel_rfl) ?_ _
     generalize w8.setCell ⟨w.heap.size + 1, 9, none⟩ (.slice (some ⟨g8, 0, none⟩) (0 + 1) cap8) = W9 at HS8 ⊢
     have HL : Box (groupM en ex fn ts = andR (andR (if isT vs 3 sComma then bysM us.length en [m] vs.tail else .ok ([m], vs)) fun l ts2 => andR (symbolM en sShut ts2) fun _ ts3 => .ok (l, ts3)) fun l ts2 => andR (gKidM en ex ts2) fun t ts3 => .ok (.node (grpN fn k l) [t], ts3)) := ⟨by rw [HM2.out, HM.out]; rfl⟩
     have HV : Box (vs.length ≤ us.length) := ⟨Nat.le_of_lt (byM_len _ _ _ _ _ HM.out)⟩
     have HQ : Box (∀ x ∈ [m], x.size ≤ 2000) := ⟨fun x hx => by simp at hx; subst hx; exact (byM_ok H2.out.st.ps.ok HM.out)⟩
     have H9 := Box.mk HS8.out.2
     clear HS8 HS1 f0 ef8 q0 c9 H2 HM HM2
     go_wp2_with fail
     go_loopw [] (fun wr => ∃ (l : List ByteArray) (bv : Value) (us : List Tok) (n : Nat), Box (GrpB g en w wr us fn k l bv) ∧ us.length ≤ n ∧ us.length ≤ ts.length ∧ l.length ≤ 8 ∧ Box (∀ x ∈ l, x.size ≤ 2000) ∧ Box (groupM en ex fn ts = andR (andR (if isT us 3 sComma then bysM n en l us.tail else .ok (l, us)) fun l ts2 => andR (symbolM en sShut ts2) fun _ ts3 => .ok (l, ts3)) fun l ts2 => andR (gKidM en ex ts2) fun t ts3 => .ok (.node (grpN fn k l) [t], ts3))) (fun wr => tLen g wr)
     case atStart => exact ⟨[m], _, vs, _, ⟨H9.out⟩, HV.out, by have := HV.out; omega, by simp, HQ, HL⟩
     case round =>
      clear H9 HL HV HQ
      obtain ⟨l, bv, us, n, HS, hn1, hn2, hl8, HQ, HE⟩ := hrel
      have htl := HS.out.st.ps.tlen
      cases hcm : isT us 3 sComma
      ·go_wp2_with fail
       refine (ptry_any g en sComma _ rfl us _ HS.out.st.ps).mono ?_
       rintro e w1 ⟨rfl, hp, ho⟩
       rw [hcm, if_neg Bool.false_ne_true] at hp
       have HS1 := Box.mk (HS.out.step ho hp)
       have HE1 : Box (groupM en ex fn ts = andR (andR (symbolM en sShut us) fun _ ts3 => .ok (l, ts3)) fun l ts2 => andR (gKidM en ex ts2) fun t ts3 => .ok (.node (grpN fn k l) [t], ts3)) := ⟨by rw [HE.out, hcm]; rfl⟩
       rw [hcm]
       clear hp ho HS HE htl
       go_wp2_with fail
       refine (psymbol_any g en sShut _ rfl us _ HS1.out.st.ps).mono ?_
       intro e w2 hx
       rcases hx.cases with ⟨f, hs, rfl, ho⟩ | ⟨a, vs, hs, hp, rfl, ho⟩
       ·have hm : groupM en ex fn ts = .error f := by rw [HE1.out, hs]; rfl
        go_wp2_with fail
        exact ⟨rfl, RetX.err (HR.out.symm.trans hm) (HS1.out.st.only.trans ho)⟩
       have HE2 : Box (groupM en ex fn ts = andR (gKidM en ex vs) fun t ts3 => .ok (.node (grpN fn k l) [t], ts3)) := ⟨by rw [HE1.out, hs]; rfl⟩
       have HS2 := Box.mk (HS1.out.step ho hp)
       have hlv := symbolM_len _ _ _ _ _ hs
       clear hs hp ho hx HS1 HE1
       go_wp2_with fail
       go_meet
       exact ⟨l, bv, vs, HE2, HS2, HQ, by omega⟩
      ·have hul := isT_len hcm
       go_wp2_with fail
       refine (ptry_any g en sComma _ rfl us _ HS.out.st.ps).mono ?_
       rintro e w1 ⟨rfl, hp, ho⟩
       rw [hcm, if_pos rfl] at hp
       have HS1 := Box.mk (HS.out.step ho hp)
       obtain ⟨n', rfl⟩ : ∃ n', n = n' + 1 := ⟨n - 1, by omega⟩
       have HE1 : Box (groupM en ex fn ts = andR (andR (andR (byM en l us.tail) fun x ts' => if isT ts' 3 sComma then bysM n' en (l ++ [x]) ts'.tail else .ok (l ++ [x], ts')) fun l ts2 => andR (symbolM en sShut ts2) fun _ ts3 => .ok (l, ts3)) fun l ts2 => andR (gKidM en ex ts2) fun t ts3 => .ok (.node (grpN fn k l) [t], ts3)) := ⟨by rw [HE.out, hcm, if_pos rfl]; rfl⟩
       rw [hcm]
       clear hp ho HS HE
       go_wp2_with fail
       obtain ⟨A8, a8, rfl⟩ := own_form HS1.out.row
       have H2 := HS1
       clear HS1
       obtain ⟨j0, hj, hy0, hy1, hy2⟩ := info_parts strInfo
       have HJ := Box.mk (And.intro hj (And.intro hy0 (And.intro hy1 hy2)))
       clear hj hy0 hy1 hy2
       have c9 := H2.out.st.c.2.2.2.2.2.2.2.2.2.1
       simp only [Nat.zero_add] at c9
       have HS0 := Box.mk H2.out.drew
       refine wp_region_T (S := fun w' => w'.cell? ⟨w.heap.size + 1, 9, none⟩ = some (.slice A8 l.length a8)) 9 (by kernel_rfl) (by exact cell_drew c9) (fun hHeld => ?_)
       refine wpAnyT_take (i := 0) (v := ?_) rfl (by kernel_rfl) (by kernel_rfl) (by kernel_rfl) (fun _ _ _ h => h) (by kernel_rfl) (by decide) (Or.inl ⟨by rfl, ?_⟩) (by assumption) ?_
       rotate_left
       ·(intro wq hSw; (try dsimp only at hSw); (try obtain ⟨hS1, hS2, hS3, hS4⟩ := hSw); (try obtain ⟨hS1, hS2⟩ := hSw); go_simp)
        all_goals with_reducible rfl
       (try simp only [List.getElem_toArray, List.getElem_cons_zero, List.getElem_cons_succ, Act.put, List.setIfInBounds_toArray, List.set_cons_zero, List.set_cons_succ])
       refine wpAnyT_take (i := 1) (v := ?_) rfl (by kernel_rfl) (by kernel_rfl) (by kernel_rfl) (fun _ _ _ h => h) (by kernel_rfl) (by decide) (Or.inl ⟨by rfl, ?_⟩) (by assumption) ?_
       rotate_left
       ·(intro wq hSw; (try dsimp only at hSw); (try obtain ⟨hS1, hS2, hS3, hS4⟩ := hSw); (try obtain ⟨hS1, hS2⟩ := hSw); go_simp)
        all_goals with_reducible rfl
       (try simp only [List.getElem_toArray, List.getElem_cons_zero, List.getElem_cons_succ, Act.put, List.setIfInBounds_toArray, List.set_cons_zero, List.set_cons_succ])
       refine wpAnyT_take (i := 2) (v := ?_) rfl (by kernel_rfl) (by kernel_rfl) (by kernel_rfl) (fun _ _ _ h => h) (by kernel_rfl) (by decide) (Or.inl ⟨by rfl, ?_⟩) (by assumption) ?_
       rotate_left
       ·(intro wq hSw; (try dsimp only at hSw); (try obtain ⟨hS1, hS2, hS3, hS4⟩ := hSw); (try obtain ⟨hS1, hS2⟩ := hSw); go_simp)
        all_goals with_reducible rfl
       (try simp only [List.getElem_toArray, List.getElem_cons_zero, List.getElem_cons_succ, Act.put, List.setIfInBounds_toArray, List.set_cons_zero, List.set_cons_succ])
       refine wpAnyT_take (i := 3) (v := ?_) rfl (by kernel_rfl) (by kernel_rfl) (by kernel_rfl) (fun _ _ _ h => h) (by kernel_rfl) (by decide) (Or.inl ⟨by rfl, ?_⟩) (by assumption) ?_
       rotate_left
       ·(intro wq hSw; (try dsimp only at hSw); (try obtain ⟨hS1, hS2, hS3, hS4⟩ := hSw); (try obtain ⟨hS1, hS2⟩ := hSw); go_simp)
        all_goals with_reducible rfl
       (try simp only [List.getElem_toArray, List.getElem_cons_zero, List.getElem_cons_succ, Act.put, List.setIfInBounds_toArray, List.set_cons_zero, List.set_cons_succ])
       refine wpAnyT_take (i := 4) (v := ?_) rfl (by kernel_rfl) (by kernel_rfl) (by kernel_rfl) (fun _ _ _ h => h) (by kernel_rfl) (by decide) (Or.inl ⟨by rfl, ?_⟩) (by assumption) ?_
       rotate_left
       ·(intro wq hSw; (try dsimp only at hSw); (try obtain ⟨hS1, hS2, hS3, hS4⟩ := hSw); (try obtain ⟨hS1, hS2⟩ := hSw); go_simp)
        all_goals with_reducible rfl
       (try simp only [List.getElem_toArray, List.getElem_cons_zero, List.getElem_cons_succ, Act.put, List.setIfInBounds_toArray, List.set_cons_zero, List.set_cons_succ])
       refine wpAnyT_one 5 (by kernel_rfl) rfl (fun K' hK' => ?_)
       (try rw [if_pos (by rfl)])
       go_simp
       refine (pby_any g en _ _ HS0.out.st.ps (.slice A8 l.length a8) l _ HS0.out.seq).mono ?_
       intro e1 w1 hx
       rcases hx.cases with ⟨f, hs, rfl, ho⟩ | ⟨m, vs, hs, hp, rfl, ho⟩
       ·have hm : groupM en ex fn ts = .error f := by rw [HE1.out, hs]; rfl
        go_wp2_with fail
        exact ⟨rfl, RetX.err (HR.out.symm.trans hm) ((H2.out.st.only.trans (Only.of_below (below_drewN _ 1))).trans ho)⟩
       have HS1 := Box.mk (HS0.out.step ho hp)
       have q0 := HS1.out.st.c.2.2.2.2.2.2.2.2.2.1
       simp only [Nat.zero_add] at q0
       have HM := Box.mk hs
       clear hs hp ho hx HS0
       go_wp2_with fail
       refine hK'.out _ _ (fun _ => q0) (fun hHq => ?_)
       clear hHeld
       have hHeld := hHq (by decide)
       clear hHq hK' K'
       (try simp only [List.getElem_toArray, List.getElem_cons_zero, List.getElem_cons_succ, Act.put, List.setIfInBounds_toArray, List.set_cons_zero, List.set_cons_succ])
       refine wpAnyT_one 6 (by kernel_rfl) rfl (fun K' hK' => ?_)
       (try rw [if_pos (by rfl)])
       go_simp
       refine hK'.out _ _ (fun _ => (cell_alloc' _ q0)) (fun hHq => ?_)
       clear hHeld
       have hHeld := hHq (by decide)
       clear hHq hK' K'
       (try simp only [List.getElem_toArray, List.getElem_cons_zero, List.getElem_cons_succ, Act.put, List.setIfInBounds_toArray, List.set_cons_zero, List.set_cons_succ])
       refine wpAnyT_one 7 (by kernel_rfl) rfl (fun K' hK' => ?_)
       (try rw [if_pos (by rfl)])
       refine wp_append_lies _ _ _ 32 rfl (w.heap.size + 2) 9 j0 _ 1 16 Tryz.underlying32 HJ.out.1 HJ.out.2.1 HJ.out.2.2.1 HJ.out.2.2.2 rfl (by decide) (.slice A8 l.length a8) l.length (l.map Value.string) rfl (by exact own_below HS1.out.row (bel1 w1 _)) ⟨w1.heap.size, 0, none⟩ 1 1 [.string m] rfl rfl (cells1 _ _ _) (by intro u hu; simp at hu; subst hu; rfl) (by decide) (by unfold maxLen; omega) (by omega) (by have := HS1.out.st.only.size; have := HS1.out.st.e.lt; simp; omega) (w1.heap.size + 1) (by simp) ?_
       intro g8 cap8 w8 hown8 hgr8 hat8 hlt8
       have HS8 := Box.mk (GrpB.app HS1.out hown8 hgr8)
       have f0 := HS8.out.1.c.2.2.2.2.2.2.2.2.2.1
       have ef8 := HS8.out.1.e.frozen
       simp only [Nat.zero_add] at f0
       clear hown8 hgr8 hat8 hlt8
       refine hK'.out _ _ (fun _ => f0) (fun hHq => ?_)
       clear hHeld
       have hHeld := hHq (by decide)
       clear hHq hK' K'
       (try simp only [List.getElem_toArray, List.getElem_cons_zero, List.getElem_cons_succ, Act.put, List.setIfInBounds_toArray, List.set_cons_zero, List.set_cons_succ])
       refine wpAnyT_take (i := 8) (v := ?_) rfl (by kernel_rfl) (by kernel_rfl) (by kernel_rfl) (fun _ _ _ h => h) (by kernel_rfl) (by decide) (Or.inl ⟨by rfl, ?_⟩) (by assumption) ?_
       rotate_left
       ·(intro wq hSw; (try dsimp only at hSw); (try obtain ⟨hS1, hS2, hS3, hS4⟩ := hSw); (try obtain ⟨hS1, hS2⟩ := hSw); go_simp)
        all_goals with_reducible rfl
       (try simp only [List.getElem_toArray, List.getElem_cons_zero, List.getElem_cons_succ, Act.put, List.setIfInBounds_toArray, List.set_cons_zero, List.set_cons_succ])
       refine wpAnyT_one 9 (by kernel_rfl) rfl (fun K' hK' => ?_)
       (try rw [if_pos (by rfl)])
       go_simp
       refine hK'.out _ _ (fun h => absurd rfl h) (fun _ => ?_)
       clear hHeld hK' K'
       (try simp only [List.getElem_toArray, List.getElem_cons_zero, List.getElem_cons_succ, Act.put, List.setIfInBounds_toArray, List.set_cons_zero, List.set_cons_succ])
       refine wpAnyT_done (by kernel_rfl) ?_ _
       generalize HW9 : w8.setCell ⟨w.heap.size + 1, 9, none⟩ (.slice (some ⟨g8, 0, none⟩) (l.length + 1) cap8) = W9 at HS8 ⊢
       have HE2 : Box (groupM en ex fn ts = andR (andR (if isT vs 3 sComma then bysM n' en (l ++ [m]) vs.tail else .ok (l ++ [m], vs)) fun l ts2 => andR (symbolM en sShut ts2) fun _ ts3 => .ok (l, ts3)) fun l ts2 => andR (gKidM en ex ts2) fun t ts3 => .ok (.node (grpN fn k l) [t], ts3)) := ⟨by rw [HE1.out, HM.out]; rfl⟩
       have hvl := byM_len _ _ _ _ _ HM.out
       have hl7 := byM_lt HM.out
       have htl9 := HS8.out.2.st.ps.tlen
       have H9 := Box.mk HS8.out.2
       have HQ2 : Box (∀ x ∈ l ++ [m], x.size ≤ 2000) := ⟨fun x hx => by
        rcases List.mem_append.1 hx with hx | hx
        ·exact HQ.out x hx
        ·simp at hx; subst hx; exact byM_ok H2.out.st.ps.ok HM.out⟩
       clear HS8 HS1 f0 ef8 q0 c9 HM HE1 HW9 HQ H2
       go_wp2_with fail
       exact ⟨⟨l ++ [m], _, vs, n', H9, by omega, by omega, by simp; omega, HQ2, HE2⟩, by omega⟩
    ·have HG2 : Box (groupM en ex fn ts = andR (gKidM en ex us.tail) fun t ts3 => .ok (.node (grpN fn k []) [t], ts3)) := ⟨by rw [HG.out, if_pos h2]; rfl⟩
     have htl := tail_len us
     go_wp2_with fail
     refine (ptry_any g en sShut _ rfl us _ H3.out.ps).mono ?_
     rintro e w4 ⟨rfl, hp, ho⟩
     rw [h2, if_pos rfl] at hp
     rw [h2]
     have H4 : Box (GrpB g en w w4 us.tail fn k [] nilV) := ⟨⟨H3.out.step ho hp, World.ownsRow_nil _ _ _ _⟩⟩
     clear hp ho H3 HG
     go_wp2_with fail
     go_meet
     exact ⟨[], nilV, us.tail, HG2, H4, ⟨by simp⟩, by omega⟩
  case rest =>
   clear H1 HM1
   obtain ⟨l, bv, us, HM2, HS, HQ, hus⟩ := hcut
   rename World => W2
   have HM3 : Box (groupM en ex fn ts = andR (symbolM en sOpen us) fun _ ts1 => andR (ex ts1) fun t ts2 => andR (symbolM en sShut ts2) fun _ ts3 => .ok (.node (grpN fn k l) [t], ts3)) := ⟨by rw [HM2.out]; exact gKid_flat _ _ _ _⟩
   clear HM2
   go_wp2_with fail
   refine (psymbol_any g en sOpen _ rfl us _ HS.out.st.ps).mono ?_
   intro e w3 hx
   rcases hx.cases with ⟨f, hs, rfl, ho⟩ | ⟨a, vs, hs, hp, rfl, ho⟩
   ·have hm : groupM en ex fn ts = .error f := by rw [HM3.out, hs]; rfl
    go_wp2_with fail
    exact ⟨rfl, RetX.err (HR.out.symm.trans hm) (HS.out.st.only.trans ho)⟩
   have hvl := symbolM_len _ _ _ _ _ hs
   have HM4 : Box (groupM en ex fn ts = andR (ex vs) fun t ts2 => andR (symbolM en sShut ts2) fun _ ts3 => .ok (.node (grpN fn k l) [t], ts3)) := ⟨by rw [HM3.out, hs]; rfl⟩
   have H3 := Box.mk (HS.out.step ho hp)
   clear hs hp ho hx HS HM3
   go_wp2_with fail
   refine (HEX.out vs _ (by omega) H3.out.st.ps H3.out.st.wp).mono ?_
   intro e w4 hx
   rcases hx.cases with ⟨f, hs, rfl, ho⟩ | ⟨t, xs, hs, hp, hv, ho⟩
   ·have hm : groupM en ex fn ts = .error f := by rw [HM4.out, hs]; rfl
    go_wp2_with fail
    exact ⟨rfl, RetX.err (HR.out.symm.trans hm) (H3.out.st.only.trans ho)⟩
   obtain ⟨mv2, bv2, kv2, rfl, ht2⟩ := hv
   obtain ⟨e2, es2⟩ := t
   obtain ⟨C1, p1, rfl, -⟩ := ht2.nod.ms.form
   obtain ⟨C2, p2, rfl, -⟩ := ht2.nod.bys.form
   obtain ⟨C3, p3, rfl, -⟩ := ht2.nod.kform
   have HM5 : Box (groupM en ex fn ts = andR (symbolM en sShut xs) fun _ ts3 => .ok (.node (grpN fn k l) [.node e2 es2], ts3)) := ⟨by rw [HM4.out, hs]; rfl⟩
   have HT2 := Box.mk ht2
   have H4 := Box.mk (H3.out.step ho hp)
   have hz4 := ho.size
   have hz3 := H3.out.st.e.lt
   clear hs hp ho hx HM4 ht2 H3
   simp only [Tree.d]
   obtain ⟨c0, c1, c2, c3, c4, c5, c6, c7, c8, c9, c10⟩ := H4.out.st.c
   simp only [Nat.zero_add] at c1 c2 c3 c4 c5 c6 c7 c8 c9 c10
   have ef := H4.out.st.e.frozen
   have n10 := cell_alloc' (.cells (ndC e2 (.slice C1 e2.ms.length p1) (.slice C2 e2.bys.length p2) (.slice C3 es2.length p3)) 35) c10
   have nf := (H4.out.st.e.alloc (.cells (ndC e2 (.slice C1 e2.ms.length p1) (.slice C2 e2.bys.length p2) (.slice C3 es2.length p3)) 35)).frozen
   go_upto_region 16 with (fail)
   have H5 : Box (GrpK g en w ((w4.alloc (.cells (ndC e2 (.slice C1 e2.ms.length p1) (.slice C2 e2.bys.length p2) (.slice C3 es2.length p3)) 35)).setCell ⟨w.heap.size + 1, 10, none⟩ (.slice (some ⟨w4.heap.size, 0, none⟩) 1 1)) xs fn k l bv w4.heap.size (.node e2 es2) (.slice C1 e2.ms.length p1) (.slice C2 e2.bys.length p2) (.slice C3 es2.length p3)) := ⟨grpK_of H4.out HT2.out (by omega)⟩
   clear H4 HT2 c0 c1 c2 c3 c4 c5 c6 c7 c8 c9 c10 ef n10 nf
   show Code.wp _ _ _ _ ((w4.alloc (.cells (ndC e2 (.slice C1 e2.ms.length p1) (.slice C2 e2.bys.length p2) (.slice C3 es2.length p3)) 35)).setCell ⟨w.heap.size + 1, 10, none⟩ (.slice (some ⟨w4.heap.size, 0, none⟩) 1 1))
   generalize ((w4.alloc (.cells (ndC e2 (.slice C1 e2.ms.length p1) (.slice C2 e2.bys.length p2) (.slice C3 es2.length p3)) 35)).setCell ⟨w.heap.size + 1, 10, none⟩ (.slice (some ⟨w4.heap.size, 0, none⟩) 1 1)) = W5 at H5 ⊢
   generalize w4.heap.size = kb at *
   go_wp2_with fail
   refine (psymbol_any g en sShut _ rfl xs _ H5.out.st.ps).mono ?_
   intro e w6 hx
   rcases hx.cases with ⟨f, hs, rfl, ho⟩ | ⟨a, ys, hs, hp, rfl, ho⟩
   ·have hm : groupM en ex fn ts = .error f := by rw [HM5.out, hs]; rfl
    go_wp2_with fail
    exact ⟨rfl, RetX.err (HR.out.symm.trans hm) (H5.out.st.only.trans ho)⟩
   have HM6 : Box (groupM en ex fn ts = .ok (.node (grpN fn k l) [.node e2 es2], ys)) := ⟨by rw [HM5.out, hs]; rfl⟩
   have HS := Box.mk (H5.out.step ho hp)
   clear hs hp ho hx HM5 H5
   obtain ⟨A9, a9, rfl⟩ := own_form HS.out.row
   obtain ⟨c0, c1, c2, c3, c4, c5, c6, c7, c8, c9, c10⟩ := HS.out.st.c
   simp only [Nat.zero_add] at c1 c2 c3 c4 c5 c6 c7 c8 c9 c10
   obtain ⟨z0, z1, z2, z3, z4, z5, z6, z7, z8, z9, z10⟩ := blk11 HS.out.st.z
   simp only [Nat.zero_add] at z1 z2 z3 z4 z5 z6 z7 z8 z9 z10
   have ef := HS.out.st.e.frozen
   have zf := HS.out.st.z.frozen
   go_wp2_with fail
   have HOK : Box (NdOk (grpN fn k l)) := ⟨⟨⟨(by unfold I64; omega : I64 2), by simp only [grpN]; unfold I64; omega, (by unfold I64; omega : I64 0), (by unfold I64; omega : I64 0), by simp only [grpN]; unfold I64; omega, (by unfold I64; omega : I64 0), (by unfold I64; omega : I64 0)⟩, by simp only [grpN]; unfold maxLen; decide, fun m hm => by simp [grpN] at hm, fun s hs => by have := HQ.out s hs; unfold maxLen; omega⟩⟩
   have HB : Box (Blk (put11 w6 w.heap.size (.int .i64 (grpN fn k l).kind) (.int .i64 (grpN fn k l).fn) (.int .i64 (grpN fn k l).win) (.int .i64 (grpN fn k l).off) (.int .i64 (grpN fn k l).k) (.int .i64 (grpN fn k l).num) (.int .i64 (grpN fn k l).den) (.string (grpN fn k l).name) nilV (.slice A9 l.length a9) (.slice (some ⟨kb, 0, none⟩) 1 1)) w.heap.size 35 (ndC (grpN fn k l) nilV (.slice A9 l.length a9) (.slice (some ⟨kb, 0, none⟩) 1 1))) := ⟨put11_blk HS.out.st.z⟩
   have HOn : Box (Only w.heap.size w6 (put11 w6 w.heap.size (.int .i64 (grpN fn k l).kind) (.int .i64 (grpN fn k l).fn) (.int .i64 (grpN fn k l).win) (.int .i64 (grpN fn k l).off) (.int .i64 (grpN fn k l).k) (.int .i64 (grpN fn k l).num) (.int .i64 (grpN fn k l).den) (.string (grpN fn k l).name) nilV (.slice A9 l.length a9) (.slice (some ⟨kb, 0, none⟩) 1 1))) := ⟨put11_only ..⟩
   show bodyPost _ _ _ _ _ (put11 w6 w.heap.size (.int .i64 (grpN fn k l).kind) (.int .i64 (grpN fn k l).fn) (.int .i64 (grpN fn k l).win) (.int .i64 (grpN fn k l).off) (.int .i64 (grpN fn k l).k) (.int .i64 (grpN fn k l).num) (.int .i64 (grpN fn k l).den) (.string (grpN fn k l).name) nilV (.slice A9 l.length a9) (.slice (some ⟨kb, 0, none⟩) 1 1))
   generalize (put11 w6 w.heap.size (.int .i64 (grpN fn k l).kind) (.int .i64 (grpN fn k l).fn) (.int .i64 (grpN fn k l).win) (.int .i64 (grpN fn k l).off) (.int .i64 (grpN fn k l).k) (.int .i64 (grpN fn k l).num) (.int .i64 (grpN fn k l).den) (.string (grpN fn k l).name) nilV (.slice A9 l.length a9) (.slice (some ⟨kb, 0, none⟩) 1 1)) = WF at HB HOn ⊢
   clear z0 z1 z2 z3 z4 z5 z6 z7 z8 z9 z10 zf c0 c1 c2 c3 c4 c5 c6 c7 c8 c9 c10 ef
   obtain ⟨e0, e1, e2', e3, e4, e5, e6, e7, e8, e9, e10⟩ := blk11 HB.out
   simp only [Nat.zero_add] at e1 e2' e3 e4 e5 e6 e7 e8 e9 e10
   have ef := HB.out.frozen
   refine bodyPost_ret (v := .agg (ndC (grpN fn k l) nilV (.slice A9 l.length a9) (.slice (some ⟨kb, 0, none⟩) 1 1))) (by simp [results, Tryz.results93, go_sem, e0, e1, e2', e3, e4, e5, e6, e7, e8, e9, e10, ef]) rfl ?_
   have hg0 := HS.out.st.g0
   exact RetX.okk (HR.out.symm.trans HM6.out) (only_new2 HS.out.st.only HOn.out (Nat.le_refl _)) (HS.out.st.ps.only HOn.out hg0) ⟨_, _, _, rfl, HS.out.tree HOK.out HOn.out⟩
end
end Go.Proofs.YtpgdijbfkahepaaGreatDoor
