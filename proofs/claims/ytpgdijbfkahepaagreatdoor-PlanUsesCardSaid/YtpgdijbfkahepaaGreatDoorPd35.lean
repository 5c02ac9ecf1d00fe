/- Contracts, packed: Ku. -/
import Derived.Test.YtpgdijbfkahepaaGreatDoorPd31
set_option linter.unusedVariables false
set_option linter.unusedSimpArgs false
namespace Go.Proofs.YtpgdijbfkahepaaGreatDoor
section
open Go.RowKit FracM
def selN (name : List UInt8) (l : List Mat) : Nd := ⟨1, 0, 0, 0, 0, 0, 0, bsL name, l, []⟩
/-- the matchers of a selection, in memory -/
structure SelM (g : Nat) (en : Int) (w W : World) (us : List Tok) (name : List UInt8) (l : List Mat) (mv : Value) : Prop where
 st : E2 g en w W us (selN name l) mv nilV nilV
 row : W.ownsRow (w.heap.size + 2) 75 3 mv l.length (l.flatMap matCells)
theorem SelM.step {g : Nat} {en : Int} {w W W' : World} {ts us : List Tok} {name : List UInt8} {l : List Mat} {mv : Value} (h : SelM g en w W ts name l mv) (ho : Only g W W') (hp : PS W' g en us) : SelM g en w W' us name l mv :=
 ⟨h.st.step ho hp, own_only h.row ho (by have := h.st.g0; omega)⟩
theorem selM_start {g : Nat} {en : Int} {w : World} {ts : List Tok} {name : List UInt8} (h : PS w g en ts) (hw : WordsP w g) : SelM g en w ((w.alloc (.cells zeroC 35)).alloc (.cells (ndC (selN name []) nilV nilV nilV) 35)) ts name [] nilV :=
 ⟨E2.start h hw, World.ownsRow_nil _ _ _ _⟩
theorem SelM.drew {g : Nat} {en : Int} {w W : World} {us : List Tok} {name : List UInt8} {l : List Mat} {mv : Value} (h : SelM g en w W us name l mv) : SelM g en w W.drew us name l mv := ⟨h.st.drew, own_below h.row (below_drewN _ 1)⟩
theorem own_ge {w : World} {B t size n : Nat} {v : Value} {xs : List Value} (h : w.ownsRow B t size v n xs) : ∀ k, v.ownBlock = some k → B ≤ k := by
 intro k hk
 rcases h.2 with ⟨rfl, _⟩ | ⟨g', cap, cur, rfl, hb, _⟩
 ·simp [Value.ownBlock] at hk
 ·simp [Value.ownBlock] at hk; omega
/-- a matcher more -/
theorem SelM.app {g : Nat} {en : Int} {w w1 w8 : World} {us : List Tok} {name : List UInt8} {l : List Mat} {mv : Value} (h : SelM g en w w1 us name l mv) {m : Mat} {g8 cap8 : Nat} (ty : TypeId) {o : Obj}
  (hown : w8.ownsRow (w.heap.size + 2) 75 3 (.slice (some ⟨g8, 0, none⟩) (l.length + 1) cap8) (l.length + 1) (l.flatMap matCells ++ matCells m)) (hg : (w1.alloc o).grownBy w8 mv.ownBlock) :
  E2 g en w w8 us (selN name l) mv nilV nilV ∧ SelM g en w (w8.setCell ⟨w.heap.size + 1, 8, none⟩ (.slice (some ⟨g8, 0, none⟩) (l.length + 1) cap8)) us name (l ++ [m]) (.slice (some ⟨g8, 0, none⟩) (l.length + 1) cap8) := by
 have hz := h.st.e.lt
 have hb : Below (w.heap.size + 2) w1 w8 := ((bel1 w1 o).mono (by omega)).trans (Only.grown (g := 0) hg (w.heap.size + 2) (own_ge h.row) (by simp; omega))
 have he := h.st.low hb
 refine ⟨he, he.put 8 _ rfl, ?_⟩
 have := own_only hown (Only.setCell (g := w.heap.size + 1) 8 (.slice (some ⟨g8, 0, none⟩) (l.length + 1) cap8)) (by omega)
 simpa using this
theorem sMat_one {en : Int} {ts : List Tok} (h1 : isT ts 3 sCurl = true) (h2 : isT ts.tail 3 sLruc = false) : sMatM en ts = andR (andR (matchM en 0 ts.tail) fun x ts' => if isT ts' 3 sComma then matchsM ts.tail.length en [x] ts'.tail else .ok ([x], ts')) fun l ts2 => andR (symbolM en sLruc ts2) fun _ ts3 => .ok (l, ts3) := by
 unfold sMatM; rw [if_pos h1, h2]; rfl
theorem matchM_lt {en : Int} {b : Nat} {ts us : List Tok} {m : Mat} (h : matchM en b ts = .ok (m, us)) : b < 8 := by
 unfold matchM at h
 split at h
 ·split at h
  ·cases h
  ·omega
 ·cases h
def tLen (g : Nat) (W : World) : Nat := match W.cell? ⟨g, 0, none⟩ with | some (.slice _ n _) => n | _ => 0
theorem PS.tlen {w : World} {g : Nat} {en : Int} {ts : List Tok} (h : PS w g en ts) : tLen g w = ts.length := by
 obtain ⟨v, h1, _, A, c, rfl, _⟩ := h.mem
 unfold tLen; rw [h1.c2.1]
structure MatOk (m : Mat) : Prop where
 a : m.1.size ≤ 2000
 b : m.2.2.size ≤ 2000
def ToksOk (ts : List Tok) : Prop := ∀ t ∈ ts, TokOk t
theorem ToksOk.tail {ts : List Tok} (h : ToksOk ts) : ToksOk ts.tail := fun t ht => h t (List.mem_of_mem_tail ht)
theorem ToksOk.head {ts : List Tok} (h : ToksOk ts) : (bsL (headT ts).text).size ≤ 2000 := by
 cases ts with
 | nil => rw [bsL_size]; simp [headT]
 | cons t r => rw [bsL_size]; exact (h t (by simp)).s
theorem matchM_ok {en : Int} {b : Nat} {ts us : List Tok} {m : Mat} (ht : ToksOk ts) (h : matchM en b ts = .ok (m, us)) : MatOk m ∧ ToksOk us := by
 unfold matchM at h
 split at h
 ·split at h
  ·cases h
  ·split at h
   ·split at h
    ·cases h; exact ⟨⟨ht.head, ht.tail.tail.head⟩, ht.tail.tail.tail⟩
    ·cases h
   ·cases h
 ·cases h
theorem matchsM_ok (n : Nat) : ∀ {en : Int} {l l' : List Mat} {ts us : List Tok}, ToksOk ts → (∀ m ∈ l, MatOk m) → matchsM n en l ts = .ok (l', us) → (∀ m ∈ l', MatOk m) ∧ ToksOk us := by
 induction n with
 | zero => intro en l l' ts us ht hl h; cases h
 | succ n ih =>
  intro en l l' ts us ht hl h
  unfold matchsM at h
  obtain ⟨m, vs, h1, h2⟩ := andR_ok h
  obtain ⟨hm, hv⟩ := matchM_ok ht h1
  have hlm : ∀ x ∈ l ++ [m], MatOk x := fun x hx => by
   rcases List.mem_append.1 hx with hx | hx
   ·exact hl x hx
   ·simp at hx; subst hx; exact hm
  split at h2
  ·exact ih hv.tail hlm h2
  ·cases h2; exact ⟨hlm, hv⟩
theorem symbolM_ok {en : Int} {x : List UInt8} {ts us : List Tok} {a : Unit} (ht : ToksOk ts) (h : symbolM en x ts = .ok (a, us)) : ToksOk us := by
 unfold symbolM at h
 split at h
 ·cases h; exact ht.tail
 ·cases h
theorem sMatM_ok {en : Int} {ts us : List Tok} {l : List Mat} (ht : ToksOk ts) (h : sMatM en ts = .ok (l, us)) : (∀ m ∈ l, MatOk m) ∧ ToksOk us := by
 unfold sMatM at h
 split at h
 ·split at h
  ·cases h; exact ⟨by simp, ht.tail.tail⟩
  ·obtain ⟨l1, vs, h1, h2⟩ := andR_ok h
   obtain ⟨hm, hv⟩ := matchsM_ok _ ht.tail (by simp) h1
   obtain ⟨a, xs, h3, h4⟩ := andR_ok h2
   cases h4
   exact ⟨hm, symbolM_ok hv h3⟩
 ·cases h; exact ⟨by simp, ht⟩
theorem idxT_lt (l : List (List UInt8)) (x : List UInt8) : -1 ≤ idxT l x ∧ idxT l x < l.length := by
 unfold idxT
 split
 ·next i h =>
  rw [List.findIdx?_eq_some_iff_getElem] at h
  obtain ⟨hi, _⟩ := h
  omega
 ·omega
theorem numberM_in {en lo hi n : Int} {ts us : List Tok} (h : numberM en lo hi ts = .ok (n, us)) : lo ≤ n ∧ n ≤ hi := numberM_lt h
theorem funM_in {en : Int} {ts us : List Tok} {f : Int × Int × Int} (h : funM en ts = .ok (f, us)) : (0 ≤ f.1 ∧ f.1 ≤ 7) ∧ (0 ≤ f.2.1 ∧ f.2.1 ≤ 4096) ∧ 0 ≤ f.2.2 ∧ f.2.2 ≤ 4096 := by
 unfold funM at h
 have hx := idxT_lt funcsT (headT ts).text
 simp only [funcsT, List.length_cons, List.length_nil] at hx
 split at h
 ·next hk =>
  split at h
  ·cases h; simp
  ·obtain ⟨_, u1, h1, h⟩ := andR_ok h
   obtain ⟨w, u2, h2, h⟩ := andR_ok h
   obtain ⟨k, u3, h3, h⟩ := andR_ok h
   obtain ⟨_, u4, h4, h⟩ := andR_ok h
   cases h
   have hw := numberM_in h2
   have hi := hk.2
   simp only [funcsT] at hi
   refine ⟨⟨hi, ?_⟩, ⟨by show (0 : Int) ≤ w; omega, by show w ≤ 4096; omega⟩, ?_⟩
   ·simp only [funcsT]; omega
   ·split at h3
    ·obtain ⟨_, u5, h5, h3⟩ := andR_ok h3
     have := numberM_in h3
     show (0 : Int) ≤ k ∧ k ≤ 4096
     omega
    ·cases h3; show (0 : Int) ≤ 0 ∧ (0 : Int) ≤ 4096; omega
 ·cases h
theorem sFunM_in {en : Int} {ts us : List Tok} {f : Int × Int × Int} (h : sFunM en ts = .ok (f, us)) : (0 ≤ f.1 ∧ f.1 ≤ 7) ∧ (0 ≤ f.2.1 ∧ f.2.1 ≤ 4096) ∧ 0 ≤ f.2.2 ∧ f.2.2 ≤ 4096 := by
 unfold sFunM at h
 split at h
 ·exact funM_in h
 ·cases h; simp
theorem sOffM_in {en : Int} {ts us : List Tok} {o : Int} (h : sOffM en ts = .ok (o, us)) : 0 ≤ o ∧ o ≤ 4096 := by
 unfold sOffM at h
 split at h
 ·exact numberM_in h
 ·cases h; omega
theorem own_keep {w w' : World} {B t size n : Nat} {v : Value} {xs : List Value} (h : w.ownsRow B t size v n xs) (hb : ∀ k, B ≤ k → k < w.heap.size → w'.heap[k]? = w.heap[k]?) : w'.ownsRow B t size v n xs := by
 obtain ⟨h1, h2⟩ := h
 refine ⟨h1, ?_⟩
 rcases h2 with ⟨rfl, rfl⟩ | ⟨g, cap, cur, rfl, hg, hh, hn, hc, hs, hx⟩
 ·exact .inl ⟨rfl, rfl⟩
 ·exact .inr ⟨g, cap, cur, rfl, hg, (hb g hg (Array.getElem?_eq_some_iff.1 hh).1).trans hh, hn, hc, hs, hx⟩
theorem only_new2 {g k : Nat} {w W W' : World} (ho : Only g w W) (h2 : Only k W W') (hk : w.heap.size ≤ k) : Only g w W' :=
 ⟨h2.os.trans ho.os, h2.tape.trans ho.tape, h2.output.trans ho.output, Nat.le_trans ho.size h2.size, fun i hi hn => (h2.block i (Nat.lt_of_lt_of_le hi ho.size) (by omega)).trans (ho.block i hi hn)⟩
/-- a node without kids -/
theorem kleaf_at {W : World} {P : Nat → Nat → Prop} {d : Nd} {mv bv : Value} (hd : NdOk d) (hm : SeqP W P 3 mv d.ms.length (d.ms.flatMap matCells)) (hb : SeqP W P 1 bv d.bys.length (d.bys.map Value.string)) : TreeAt W P (.node d []) (mv, bv, nilV) :=
 Nod.tree ⟨hd, hm, hb, [], rfl, SeqP.nil _ _ _, fun i t c h1 h2 => by simp at h1⟩
/-- a selection with its function -/
structure SelF (g : Nat) (en : Int) (w W : World) (us : List Tok) (d : Nd) (mv : Value) : Prop where
 st : E2 g en w W us d mv nilV nilV
 row : W.ownsRow (w.heap.size + 2) 75 3 mv d.ms.length (d.ms.flatMap matCells)
def selD (name : List UInt8) (l : List Mat) (f : Int × Int × Int) (o : Int) : Nd := ⟨1, f.1, f.2.1, o, f.2.2, 0, 0, bsL name, l, []⟩
set_option maxRecDepth 100000 in
set_option maxHeartbeats 4000000 in
theorem pselection_any (g : Nat) (en : Int) (name : List UInt8) (ts : List Tok) (w : World) (h : PS w g en ts) (hw : WordsP w g) (hn : name.length ≤ 2000) :
  Calls Tryz.prog 94 #[.pointer (some ⟨g, 0, none⟩), .string (bsL name)] w (RetX g en w (selectM en name ts) (VTree w.heap.size)) := by
 obtain ⟨R, HR⟩ : ∃ R, Box (selectM en name ts = R) := ⟨_, ⟨rfl⟩⟩
 rw [HR.out]
 have H0 := Box.mk (selM_start (name := name) h hw)
 have HTK : Box (ToksOk ts) := ⟨h.ok⟩
 clear h hw
 go_enter Tryz.func94, Tryz.ntmps94
 go_upto_region 2 with (fail)
 show Code.wp _ _ _ _ ((w.alloc (.cells zeroC 35)).alloc (.cells (ndC (selN name []) nilV nilV nilV) 35))
 generalize (w.alloc (.cells zeroC 35)).alloc (.cells (ndC (selN name []) nilV nilV nilV) 35) = W0 at H0 ⊢
 go_cut [14] (fun x wx => ∃ (c : Bool) (us : List Tok), x = .bool c ∧ Box (SelM g en w wx us name [] nilV) ∧ Box (c = true → isT ts 3 sCurl = true ∧ us = ts.tail ∧ isT us 3 sLruc = false) ∧ Box (c = false → sMatM en ts = .ok ([], us)))
 case first =>
  cases h1 : isT ts 3 sCurl
  ·go_wp2_with fail
   refine (ptry_any g en sCurl _ rfl ts _ H0.out.st.ps).mono ?_
   rintro e w1 ⟨rfl, hp, ho⟩
   rw [h1, if_neg Bool.false_ne_true] at hp
   have H1 := Box.mk (H0.out.step ho hp)
   rw [h1]
   clear hp ho H0
   go_wp2_with fail
   go_meet
   exact ⟨false, ts, rfl, H1, ⟨fun h => by cases h⟩, ⟨fun _ => by unfold sMatM; rw [h1, if_neg Bool.false_ne_true]⟩⟩
  ·go_wp2_with fail
   refine (ptry_any g en sCurl _ rfl ts _ H0.out.st.ps).mono ?_
   rintro e w1 ⟨rfl, hp, ho⟩
   rw [h1, if_pos rfl] at hp
   have H1 := Box.mk (H0.out.step ho hp)
   rw [h1]
   clear hp ho H0
   go_wp2_with fail
   refine (ptry_any g en sLruc _ rfl ts.tail _ H1.out.st.ps).mono ?_
   rintro e w1 ⟨rfl, hp, ho⟩
   cases h2 : isT ts.tail 3 sLruc
   ·rw [h2, if_neg Bool.false_ne_true] at hp
    have H2 := Box.mk (H1.out.step ho hp)
    clear hp ho H1
    go_wp2_with fail
    go_meet
    exact ⟨true, ts.tail, rfl, H2, ⟨fun _ => ⟨h1, rfl, h2⟩⟩, ⟨fun h => by cases h⟩⟩
   ·rw [h2, if_pos rfl] at hp
    have H2 := Box.mk (H1.out.step ho hp)
    clear hp ho H1
    go_wp2_with fail
    go_meet
    exact ⟨false, ts.tail.tail, rfl, H2, ⟨fun h => by cases h⟩, ⟨fun _ => by unfold sMatM; rw [if_pos h1, if_pos h2]⟩⟩
 case rest =>
  obtain ⟨c, us, rfl, H2, HC1, HC2⟩ := hcut
  rename World => W2
  clear H0
  go_upto_if 14 with (fail)
  go_cut [] (fun wx => ∃ (l : List Mat) (mv : Value) (vs : List Tok), sMatM en ts = .ok (l, vs) ∧ Box (SelM g en w wx vs name l mv))
  case first =>
   cases c
   ·go_wp2_with fail
    go_meet
    exact ⟨[], nilV, us, HC2.out (by simp), H2⟩
   ·obtain ⟨g1, rfl, g2⟩ := HC1.out rfl
    clear HC2 HC1
    go_wp2_with fail
    obtain ⟨j0, hj, hy0, hy1, hy2⟩ := info_parts matInfo
    have HJ := Box.mk (And.intro hj (And.intro hy0 (And.intro hy1 hy2)))
    clear hj hy0 hy1 hy2
    have c8 := H2.out.st.c.2.2.2.2.2.2.2.2.1
    simp only [Nat.zero_add] at c8
    have HS0 := Box.mk H2.out.drew
    refine wp_region_T (S := fun w' => w'.cell? ⟨w.heap.size + 1, 8, none⟩ = some (nilV)) 7 (by kernel_rfl) (by exact cell_drew c8) (fun hHeld => ?_)
    refine wpAnyT_take (i := 0) (v := ?_) rfl (by kernel_rfl) (by kernel_rfl) (by kernel_rfl) (fun _ _ _ h => h) (by kernel_rfl) (by decide) (Or.inl ⟨by rfl, ?_⟩) (by assumption) ?_
    rotate_left
    ·(intro wq hSw; (try dsimp only at hSw); (try obtain ⟨hS1, hS2, hS3, hS4⟩ := hSw); (try obtain ⟨hS1, hS2⟩ := hSw); go_simp)
     all_goals with_reducible rfl
    (try simp only [List.getElem_toArray, List.getElem_cons_zero, List.getElem_cons_succ, Act.put, List.setIfInBounds_toArray, List.set_cons_zero, List.set_cons_succ])
    refine wpAnyT_take (i := 1) (v := ?_) rfl (by kernel_rfl) (by kernel_rfl) (by kernel_rfl) (fun _ _ _ h => h) (by kernel_rfl) (by decide) (Or.inl ⟨by rfl, ?_⟩) (by assumption) ?_
    rotate_left
    ·(intro wq hSw; (try dsimp only at hSw); (try obtain ⟨hS1, hS2, hS3, hS4⟩ := hSw); (try obtain ⟨hS1, hS2⟩ := hSw); go_simp)
     all_goals with_reducible rfl
    (try simp only [List.getElem_toArray, List.getElem_cons_zero, List.getElem_cons_succ, Act.put, List.setIfInBounds_toArray, List.set_cons_zero, List.set_cons_succ])
    refine wpAnyT_take (i := 2) (v := ?_) rfl (by kernel_rfl) (by kernel_rfl) (by kernel_rfl) (fun _ _ _ h => h) (by kernel_rfl) (by decide) (Or.inl ⟨by rfl, ?_⟩) (by assumption) ?_
    rotate_left
    ·(intro wq hSw; (try dsimp only at hSw); (try obtain ⟨hS1, hS2, hS3, hS4⟩ := hSw); (try obtain ⟨hS1, hS2⟩ := hSw); go_simp)
     all_goals with_reducible rfl
    (try simp only [List.getElem_toArray, List.getElem_cons_zero, List.getElem_cons_succ, Act.put, List.setIfInBounds_toArray, List.set_cons_zero, List.set_cons_succ])
    refine wpAnyT_one 3 (by kernel_rfl) rfl (fun K' hK' => ?_)
    (try rw [if_pos (by rfl)])
    go_simp
    refine (pmatcher_any g en 0 _ _ HS0.out.st.ps HS0.out.st.wp (by omega)).mono ?_
    intro e1 w1 hx
    rcases hx.cases with ⟨f, hs, rfl, ho⟩ | ⟨m, vs, hs, hp, rfl, ho⟩
    ·have hm : selectM en name ts = .error f := by unfold selectM; rw [sMat_one g1 g2, hs]; rfl
     go_wp2_with fail
     exact ⟨rfl, RetX.err (HR.out.symm.trans hm) ((H2.out.st.only.trans (Only.of_below (below_drewN _ 1))).trans ho)⟩
    have HS1 := Box.mk (HS0.out.step ho hp)
    have q0 := HS1.out.st.c.2.2.2.2.2.2.2.2.1
    simp only [Nat.zero_add] at q0
    have HM := Box.mk hs
    clear hs hp ho hx HS0
    go_wp2_with fail
    refine hK'.out _ _ (fun _ => q0) (fun hHq => ?_)
    clear hHeld
    have hHeld := hHq (by decide)
    clear hHq hK' K'
    (try simp only [List.getElem_toArray, List.getElem_cons_zero, List.getElem_cons_succ, Act.put, List.setIfInBounds_toArray, List.set_cons_zero, List.set_cons_succ])
    refine wpAnyT_one 4 (by kernel_rfl) rfl (fun K' hK' => ?_)
    (try rw [if_pos (by rfl)])
    go_simp
    refine hK'.out _ _ (fun _ => (cell_alloc' _ q0)) (fun hHq => ?_)
    clear hHeld
    have hHeld := hHq (by decide)
    clear hHq hK' K'
    (try simp only [List.getElem_toArray, List.getElem_cons_zero, List.getElem_cons_succ, Act.put, List.setIfInBounds_toArray, List.set_cons_zero, List.set_cons_succ])
    refine wpAnyT_one 5 (by kernel_rfl) rfl (fun K' hK' => ?_)
    (try rw [if_pos (by rfl)])
    refine wp_append_lies _ _ _ 31 rfl (w.heap.size + 2) 75 j0 _ 3 40 Tryz.underlying31 HJ.out.1 HJ.out.2.1 HJ.out.2.2.1 HJ.out.2.2.2 rfl (by decide) (nilV) 0 ([].flatMap matCells) rfl (by exact own_below HS1.out.row (bel1 w1 _)) ⟨w1.heap.size, 0, none⟩ 1 1 (matCells m) rfl rfl (cells3 _ _ _ _ _) (by intro u hu; simp [matCells] at hu; rcases hu with rfl | rfl | rfl <;> rfl) (by decide) (by unfold maxLen; omega) (by omega) (by have := HS1.out.st.only.size; have := HS1.out.st.e.lt; simp; omega) (w1.heap.size + 1) (by simp) ?_
    intro g8 cap8 w8 hown8 hgr8 hat8 hlt8
    have HS8 := Box.mk (SelM.app HS1.out 75 hown8 hgr8)
    have f0 := HS8.out.1.c.2.2.2.2.2.2.2.2.1
    have ef8 := HS8.out.1.e.frozen
    simp only [Nat.zero_add] at f0
    clear hown8 hgr8 hat8 hlt8
    refine hK'.out _ _ (fun _ => f0) (fun hHq => ?_)
    clear hHeld
    have hHeld := hHq (by decide)
    clear hHq hK' K'
    (try simp only [List.getElem_toArray, List.getElem_cons_zero, List.getElem_cons_succ, Act.put, List.setIfInBounds_toArray, List.set_cons_zero, List.set_cons_succ])
    refine wpAnyT_take (i := 6) (v := ?_) rfl (by kernel_rfl) (by kernel_rfl) (by kernel_rfl) (fun _ _ _ h => h) (by kernel_rfl) (by decide) (Or.inl ⟨by rfl, ?_⟩) (by assumption) ?_
    rotate_left
    ·(intro wq hSw; (try dsimp only at hSw); (try obtain ⟨hS1, hS2, hS3, hS4⟩ := hSw); (try obtain ⟨hS1, hS2⟩ := hSw); go_simp)
     all_goals with_reducible rfl
    (try simp only [List.getElem_toArray, List.getElem_cons_zero, List.getElem_cons_succ, Act.put, List.setIfInBounds_toArray, List.set_cons_zero, List.set_cons_succ])
    refine wpAnyT_one 7 (by kernel_rfl) rfl (fun K' hK' => ?_)
    (try rw [if_pos (by rfl)])
    go_simp
    refine hK'.out _ _ (fun h => absurd rfl h) (fun _ => ?_)
    clear hHeld hK' K'
    (try simp only [List.getElem_toArray, List.getElem_cons_zero, List.getElem_cons_succ, Act.put, List.setIfInBounds_toArray, List.set_cons_zero, List.set_cons_succ])
    refine wpAnyT_done (by kernel_rfl) ?_ _
    generalize w8.setCell ⟨w.heap.size + 1, 8, none⟩ (.slice (some ⟨g8, 0, none⟩) (0 + 1) cap8) = W9 at HS8 ⊢
    have HL : Box (sMatM en ts = andR (if isT vs 3 sComma then matchsM ts.tail.length en [m] vs.tail else .ok ([m], vs)) fun l ts2 => andR (symbolM en sLruc ts2) fun _ ts3 => .ok (l, ts3)) := ⟨by rw [sMat_one g1 g2, HM.out]; rfl⟩
    have HV : Box (vs.length ≤ ts.tail.length) := ⟨Nat.le_of_lt (matchM_len _ _ _ _ _ HM.out)⟩
    have H9 := Box.mk HS8.out.2
    clear HS8 HS1 f0 ef8 q0 c8 H2 HM g1 g2
    go_wp2_with fail
    go_loopw [] (fun wr => ∃ (l : List Mat) (mv : Value) (us : List Tok) (n : Nat), Box (SelM g en w wr us name l mv) ∧ us.length ≤ n ∧ l.length ≤ 8 ∧ Box (sMatM en ts = andR (if isT us 3 sComma then matchsM n en l us.tail else .ok (l, us)) fun l ts2 => andR (symbolM en sLruc ts2) fun _ ts3 => .ok (l, ts3))) (fun wr => tLen g wr)
    case atStart => exact ⟨[m], _, vs, _, ⟨H9.out⟩, HV.out, by simp, HL⟩
    case round =>
     clear H9 HL HV
     obtain ⟨l, mv, us, n, HS, hn1, hl8, HE⟩ := hrel
     have htl := HS.out.st.ps.tlen
     cases hcm : isT us 3 sComma
     ·go_wp2_with fail
      refine (ptry_any g en sComma _ rfl us _ HS.out.st.ps).mono ?_
      rintro e w1 ⟨rfl, hp, ho⟩
      rw [hcm, if_neg Bool.false_ne_true] at hp
      have HS1 := Box.mk (HS.out.step ho hp)
      have HE1 : Box (sMatM en ts = andR (symbolM en sLruc us) fun _ ts3 => .ok (l, ts3)) := ⟨by rw [HE.out, hcm]; rfl⟩
      rw [hcm]
      clear hp ho HS HE htl
      go_wp2_with fail
      refine (psymbol_any g en sLruc _ rfl us _ HS1.out.st.ps).mono ?_
      intro e w2 hx
      rcases hx.cases with ⟨f, hs, rfl, ho⟩ | ⟨a, vs, hs, hp, rfl, ho⟩
      ·have hm : selectM en name ts = .error f := by unfold selectM; rw [HE1.out, hs]; rfl
       go_wp2_with fail
       exact ⟨rfl, RetX.err (HR.out.symm.trans hm) (HS1.out.st.only.trans ho)⟩
      have HE2 : Box (sMatM en ts = .ok (l, vs)) := ⟨by rw [HE1.out, hs]; rfl⟩
      have HS2 := Box.mk (HS1.out.step ho hp)
      clear hs hp ho hx HS1 HE1
      go_wp2_with fail
      go_meet
      exact ⟨l, mv, vs, HE2.out, HS2⟩
     ·have hul := isT_len hcm
      go_wp2_with fail
      refine (ptry_any g en sComma _ rfl us _ HS.out.st.ps).mono ?_
      rintro e w1 ⟨rfl, hp, ho⟩
      rw [hcm, if_pos rfl] at hp
      have HS1 := Box.mk (HS.out.step ho hp)
      obtain ⟨n', rfl⟩ : ∃ n', n = n' + 1 := ⟨n - 1, by omega⟩
      have HE1 : Box (sMatM en ts = andR (andR (matchM en l.length us.tail) fun x ts' => if isT ts' 3 sComma then matchsM n' en (l ++ [x]) ts'.tail else .ok (l ++ [x], ts')) fun l ts2 => andR (symbolM en sLruc ts2) fun _ ts3 => .ok (l, ts3)) := ⟨by rw [HE.out, hcm, if_pos rfl]; rfl⟩
      rw [hcm]
      clear hp ho HS HE
      go_wp2_with fail
      obtain ⟨A8, a8, rfl⟩ := own_form HS1.out.row
      obtain ⟨j0, hj, hy0, hy1, hy2⟩ := info_parts matInfo
      have HJ := Box.mk (And.intro hj (And.intro hy0 (And.intro hy1 hy2)))
      clear hj hy0 hy1 hy2
      have c8 := HS1.out.st.c.2.2.2.2.2.2.2.2.1
      simp only [Nat.zero_add] at c8
      have HS0 := Box.mk HS1.out.drew
      have HO := Box.mk HS1.out.st.only
      clear HS1
      refine wp_region_T (S := fun w' => w'.cell? ⟨w.heap.size + 1, 8, none⟩ = some (.slice A8 l.length a8)) 10 (by kernel_rfl) (by exact cell_drew c8) (fun hHeld => ?_)
      refine wpAnyT_take (i := 0) (v := ?_) rfl (by kernel_rfl) (by kernel_rfl) (by kernel_rfl) (fun _ _ _ h => h) (by kernel_rfl) (by decide) (Or.inl ⟨by rfl, ?_⟩) (by assumption) ?_
      rotate_left
      ·(intro wq hSw; (try dsimp only at hSw); (try obtain ⟨hS1, hS2, hS3, hS4⟩ := hSw); (try obtain ⟨hS1, hS2⟩ := hSw); go_simp)
       all_goals with_reducible rfl
      (try simp only [List.getElem_toArray, List.getElem_cons_zero, List.getElem_cons_succ, Act.put, List.setIfInBounds_toArray, List.set_cons_zero, List.set_cons_succ])
      refine wpAnyT_take (i := 1) (v := ?_) rfl (by kernel_rfl) (by kernel_rfl) (by kernel_rfl) (fun _ _ _ h => h) (by kernel_rfl) (by decide) (Or.inl ⟨by rfl, ?_⟩) (by assumption) ?_
      rotate_left
      ·(intro wq hSw; (try dsimp only at hSw); (try obtain ⟨hS1, hS2, hS3, hS4⟩ := hSw); (try obtain ⟨hS1, hS2⟩ := hSw); go_simp)
       all_goals with_reducible rfl
      (try simp only [List.getElem_toArray, List.getElem_cons_zero, List.getElem_cons_succ, Act.put, List.setIfInBounds_toArray, List.set_cons_zero, List.set_cons_succ])
      refine wpAnyT_take (i := 2) (v := ?_) rfl (by kernel_rfl) (by kernel_rfl) (by kernel_rfl) (fun _ _ _ h => h) (by kernel_rfl) (by decide) (Or.inl ⟨by rfl, ?_⟩) (by assumption) ?_
      rotate_left
      ·(intro wq hSw; (try dsimp only at hSw); (try obtain ⟨hS1, hS2, hS3, hS4⟩ := hSw); (try obtain ⟨hS1, hS2⟩ := hSw); go_simp)
       all_goals with_reducible rfl
      (try simp only [List.getElem_toArray, List.getElem_cons_zero, List.getElem_cons_succ, Act.put, List.setIfInBounds_toArray, List.set_cons_zero, List.set_cons_succ])
      refine wpAnyT_take (i := 3) (v := ?_) rfl (by kernel_rfl) (by kernel_rfl) (by kernel_rfl) (fun _ _ _ h => h) (by kernel_rfl) (by decide) (Or.inl ⟨by rfl, ?_⟩) (by assumption) ?_
      rotate_left
      ·(intro wq hSw; (try dsimp only at hSw); (try obtain ⟨hS1, hS2, hS3, hS4⟩ := hSw); (try obtain ⟨hS1, hS2⟩ := hSw); go_simp)
       all_goals with_reducible rfl
      (try simp only [List.getElem_toArray, List.getElem_cons_zero, List.getElem_cons_succ, Act.put, List.setIfInBounds_toArray, List.set_cons_zero, List.set_cons_succ])
      refine wpAnyT_take (i := 4) (v := ?_) rfl (by kernel_rfl) (by kernel_rfl) (by kernel_rfl) (fun _ _ _ h => h) (by kernel_rfl) (by decide) (Or.inl ⟨by rfl, ?_⟩) (by assumption) ?_
      rotate_left
      ·(intro wq hSw; (try dsimp only at hSw); (try obtain ⟨hS1, hS2, hS3, hS4⟩ := hSw); (try obtain ⟨hS1, hS2⟩ := hSw); go_simp)
       all_goals with_reducible rfl
      (try simp only [List.getElem_toArray, List.getElem_cons_zero, List.getElem_cons_succ, Act.put, List.setIfInBounds_toArray, List.set_cons_zero, List.set_cons_succ])
      refine wpAnyT_take (i := 5) (v := ?_) rfl (by kernel_rfl) (by kernel_rfl) (by kernel_rfl) (fun _ _ _ h => h) (by kernel_rfl) (by decide) (Or.inl ⟨by rfl, ?_⟩) (by assumption) ?_
      rotate_left
      ·(intro wq hSw; (try dsimp only at hSw); (try obtain ⟨hS1, hS2, hS3, hS4⟩ := hSw); (try obtain ⟨hS1, hS2⟩ := hSw); go_simp)
       all_goals with_reducible rfl
      (try simp only [List.getElem_toArray, List.getElem_cons_zero, List.getElem_cons_succ, Act.put, List.setIfInBounds_toArray, List.set_cons_zero, List.set_cons_succ])
      refine wpAnyT_one 6 (by kernel_rfl) rfl (fun K' hK' => ?_)
      (try rw [if_pos (by rfl)])
      go_simp
      refine (pmatcher_any g en l.length _ _ HS0.out.st.ps HS0.out.st.wp (by omega)).mono ?_
      intro e1 w1 hx
      rcases hx.cases with ⟨f, hs, rfl, ho⟩ | ⟨m, vs, hs, hp, rfl, ho⟩
      ·have hm : selectM en name ts = .error f := by unfold selectM; rw [HE1.out, hs]; rfl
       go_wp2_with fail
       exact ⟨rfl, RetX.err (HR.out.symm.trans hm) ((HO.out.trans (Only.of_below (below_drewN _ 1))).trans ho)⟩
      have HS1 := Box.mk (HS0.out.step ho hp)
      have q0 := HS1.out.st.c.2.2.2.2.2.2.2.2.1
      simp only [Nat.zero_add] at q0
      have HM := Box.mk hs
      clear hs hp ho hx HS0
      go_wp2_with fail
      refine hK'.out _ _ (fun _ => q0) (fun hHq => ?_)
      clear hHeld
      have hHeld := hHq (by decide)
      clear hHq hK' K'
      (try simp only [List.getElem_toArray, List.getElem_cons_zero, List.getElem_cons_succ, Act.put, List.setIfInBounds_toArray, List.set_cons_zero, List.set_cons_succ])
      refine wpAnyT_one 7 (by kernel_rfl) rfl (fun K' hK' => ?_)
      (try rw [if_pos (by rfl)])
      go_simp
      refine hK'.out _ _ (fun _ => (cell_alloc' _ q0)) (fun hHq => ?_)
      clear hHeld
      have hHeld := hHq (by decide)
      clear hHq hK' K'
      (try simp only [List.getElem_toArray, List.getElem_cons_zero, List.getElem_cons_succ, Act.put, List.setIfInBounds_toArray, List.set_cons_zero, List.set_cons_succ])
      refine wpAnyT_one 8 (by kernel_rfl) rfl (fun K' hK' => ?_)
      (try rw [if_pos (by rfl)])
      refine wp_append_lies _ _ _ 31 rfl (w.heap.size + 2) 75 j0 _ 3 40 Tryz.underlying31 HJ.out.1 HJ.out.2.1 HJ.out.2.2.1 HJ.out.2.2.2 rfl (by decide) (.slice A8 l.length a8) l.length (l.flatMap matCells) rfl (by exact own_below HS1.out.row (bel1 w1 _)) ⟨w1.heap.size, 0, none⟩ 1 1 (matCells m) rfl rfl (cells3 _ _ _ _ _) (by intro u hu; simp [matCells] at hu; rcases hu with rfl | rfl | rfl <;> rfl) (by decide) (by unfold maxLen; omega) (by omega) (by have := HS1.out.st.only.size; have := HS1.out.st.e.lt; simp; omega) (w1.heap.size + 1) (by simp) ?_
      intro g8 cap8 w8 hown8 hgr8 hat8 hlt8
      have HS8 := Box.mk (SelM.app HS1.out 75 hown8 hgr8)
      have f0 := HS8.out.1.c.2.2.2.2.2.2.2.2.1
      have ef8 := HS8.out.1.e.frozen
      simp only [Nat.zero_add] at f0
      clear hown8 hgr8 hat8 hlt8
      refine hK'.out _ _ (fun _ => f0) (fun hHq => ?_)
      clear hHeld
      have hHeld := hHq (by decide)
      clear hHq hK' K'
      (try simp only [List.getElem_toArray, List.getElem_cons_zero, List.getElem_cons_succ, Act.put, List.setIfInBounds_toArray, List.set_cons_zero, List.set_cons_succ])
      refine wpAnyT_take (i := 9) (v := ?_) rfl (by kernel_rfl) (by kernel_rfl) (by kernel_rfl) (fun _ _ _ h => h) (by kernel_rfl) (by decide) (Or.inl ⟨by rfl, ?_⟩) (by assumption) ?_
      rotate_left
      ·(intro wq hSw; (try dsimp only at hSw); (try obtain ⟨hS1, hS2, hS3, hS4⟩ := hSw); (try obtain ⟨hS1, hS2⟩ := hSw); go_simp)
       all_goals with_reducible rfl
      (try simp only [List.getElem_toArray, List.getElem_cons_zero, List.getElem_cons_succ, Act.put, List.setIfInBounds_toArray, List.set_cons_zero, List.set_cons_succ])
      refine wpAnyT_one 10 (by kernel_rfl) rfl (fun K' hK' => ?_)
      (try rw [if_pos (by rfl)])
      go_simp
      refine hK'.out _ _ (fun h => absurd rfl h) (fun _ => ?_)
      clear hHeld hK' K'
      (try simp only [List.getElem_toArray, List.getElem_cons_zero, List.getElem_cons_succ, Act.put, List.setIfInBounds_toArray, List.set_cons_zero, List.set_cons_succ])
      refine wpAnyT_done (by kernel_rfl) ?_ _
      generalize HW9 : w8.setCell ⟨w.heap.size + 1, 8, none⟩ (.slice (some ⟨g8, 0, none⟩) (l.length + 1) cap8) = W9 at HS8 ⊢
      have HE2 : Box (sMatM en ts = andR (if isT vs 3 sComma then matchsM n' en (l ++ [m]) vs.tail else .ok (l ++ [m], vs)) fun l ts2 => andR (symbolM en sLruc ts2) fun _ ts3 => .ok (l, ts3)) := ⟨by rw [HE1.out, HM.out]; rfl⟩
      have hvl := matchM_len _ _ _ _ _ HM.out
      have hl7 := matchM_lt HM.out
      have htl9 := HS8.out.2.st.ps.tlen
      have H9 := Box.mk HS8.out.2
      clear HS8 HS1 f0 ef8 q0 c8 HM HE1 HW9
      go_wp2_with fail
      exact ⟨⟨l ++ [m], _, vs, n', H9, by omega, by simp; omega, HE2⟩, by omega⟩
  case rest =>
   clear H2 HC1 HC2
   obtain ⟨l, mv, vs, hsm, HS⟩ := hcut
   rename World => W3
   have HML := Box.mk (sMatM_ok HTK.out hsm).1
   have HM : Box (selectM en name ts = andR (sFunM en vs) fun f ts2 => andR (sOffM en ts2) fun o ts3 => .ok (.node (selD name l f o) [], ts3)) := ⟨by unfold selectM; rw [hsm]; rfl⟩
   clear hsm
   go_upto_if 37 with (go_at_call 78; refine (ptry_any g en sDot _ rfl vs _ HS.out.st.ps).mono ?_; rintro e w1 ⟨rfl, hp, ho⟩)
   have HS1 := Box.mk (HS.out.step ho hp)
   clear HS hp ho
   go_cut [] (fun wx => ∃ (f : Int × Int × Int) (us : List Tok), sFunM en vs = .ok (f, us) ∧ Box (SelF g en w wx us (selD name l f 0) mv))
   case first =>
    cases h1 : isT vs 3 sDot
    ·rw [h1, if_neg Bool.false_ne_true] at HS1
     go_wp2_with fail
     go_meet
     exact ⟨(0, 0, 0), vs, by unfold sFunM; rw [h1, if_neg Bool.false_ne_true], ⟨⟨HS1.out.st, HS1.out.row⟩⟩⟩
    ·rw [h1, if_pos rfl] at HS1
     go_wp2_with fail
     refine (pfunction_any g en (w.heap.size + 1) vs.tail _ (selN name l) mv nilV nilV HS1.out.st.fn ⟨rfl, rfl, rfl⟩).mono ?_
     intro e w2 hx
     unfold RetFn at hx
     split at hx
     ·next f us hs =>
      obtain ⟨rfl, hf⟩ := hx
      have hsf : sFunM en vs = .ok (f, us) := by unfold sFunM; rw [if_pos h1]; exact hs
      have HF : Box (SelF g en w w2 us (selD name l f 0) mv) := ⟨HS1.out.st.of_fn hf, own_keep HS1.out.row fun k hk hkl => hf.only.block k hkl (by have := HS1.out.st.g0; omega) (by omega)⟩
      clear hf HS1
      go_wp2_with fail
      go_meet
      exact ⟨f, us, hsf, HF⟩
     ·next f hs =>
      obtain ⟨rfl, ho⟩ := hx
      have hm : selectM en name ts = .error f := by rw [HM.out]; unfold sFunM; rw [if_pos h1, hs]; rfl
      have HO := Box.mk (ho.only HS1.out.st.only (by omega))
      go_wp2_with fail
      exact ⟨rfl, RetX.err (HR.out.symm.trans hm) HO.out⟩
   case rest =>
    clear HS1
    obtain ⟨f, us, hsf, HS⟩ := hcut
    rename World => W4
    have HF := Box.mk (sFunM_in hsf)
    have HM2 : Box (selectM en name ts = andR (sOffM en us) fun o ts3 => .ok (.node (selD name l f o) [], ts3)) := ⟨by rw [HM.out, hsf]; rfl⟩
    clear hsf HM
    go_upto_if 41 with (go_at_call 78; refine (ptry_any g en sAt _ rfl us _ HS.out.st.ps).mono ?_; rintro e w1 ⟨rfl, hp, ho⟩)
    have HS1 : Box (SelF g en w w1 (if isT us 3 sAt then us.tail else us) (selD name l f 0) mv) := ⟨HS.out.st.step ho hp, own_only HS.out.row ho (by have := HS.out.st.g0; omega)⟩
    clear HS hp ho
    go_cut [] (fun wx => ∃ (o : Int) (xs : List Tok), sOffM en us = .ok (o, xs) ∧ Box (SelF g en w wx xs (selD name l f o) mv))
    case first =>
     cases h1 : isT us 3 sAt
     ·rw [h1, if_neg Bool.false_ne_true] at HS1
      go_wp2_with fail
      go_meet
      exact ⟨0, us, by unfold sOffM; rw [h1, if_neg Bool.false_ne_true], HS1⟩
     ·rw [h1, if_pos rfl] at HS1
      go_wp2_with fail
      refine (pnumber_any g en 0 4096 us.tail _ HS1.out.st.ps).mono ?_
      intro e w2 hx
      rcases hx.cases with ⟨f0, hs, rfl, ho⟩ | ⟨n, xs, hs, hp, rfl, ho⟩
      ·have hm : selectM en name ts = .error f0 := by rw [HM2.out]; unfold sOffM; rw [if_pos h1, hs]; rfl
       go_wp2_with fail
       exact ⟨rfl, RetX.err (HR.out.symm.trans hm) (HS1.out.st.only.trans ho)⟩
      have hso : sOffM en us = .ok (n, xs) := by unfold sOffM; rw [if_pos h1]; exact hs
      have HE := Box.mk (HS1.out.st.step ho hp)
      have HRW := Box.mk (own_only HS1.out.row ho (by have := HS1.out.st.g0; omega))
      obtain ⟨c0, c1, c2, c3, c4, c5, c6, c7, c8, c9, c10⟩ := HE.out.c
      simp only [Nat.zero_add] at c1 c2 c3 c4 c5 c6 c7 c8 c9 c10
      have ef := HE.out.e.frozen
      clear hs hp ho hx HS1
      go_wp2_with fail
      go_meet
      exact ⟨n, xs, hso, ⟨HE.out.put 3 (.int .i64 n) rfl, own_only HRW.out (Only.setCell 3 (.int .i64 n)) (by omega)⟩⟩
    case rest =>
     clear HS1
     obtain ⟨o, xs, hso, HS⟩ := hcut
     rename World => W5
     have HO := Box.mk (sOffM_in hso)
     have HM3 : Box (selectM en name ts = .ok (.node (selD name l f o) [], xs)) := ⟨by rw [HM2.out, hso]; rfl⟩
     clear hso HM2
     obtain ⟨A9, a9, rfl⟩ := own_form HS.out.row
     obtain ⟨c0, c1, c2, c3, c4, c5, c6, c7, c8, c9, c10⟩ := HS.out.st.c
     simp only [Nat.zero_add] at c1 c2 c3 c4 c5 c6 c7 c8 c9 c10
     obtain ⟨z0, z1, z2, z3, z4, z5, z6, z7, z8, z9, z10⟩ := blk11 HS.out.st.z
     simp only [Nat.zero_add] at z1 z2 z3 z4 z5 z6 z7 z8 z9 z10
     have ef := HS.out.st.e.frozen
     have zf := HS.out.st.z.frozen
     go_wp2_with fail
     have HOK : Box (NdOk (selD name l f o)) := ⟨⟨⟨(by unfold I64; omega : I64 1), by have := HF.out; simp only [selD]; unfold I64; omega, by have := HF.out; simp only [selD]; unfold I64; omega, by have := HO.out; simp only [selD]; unfold I64; omega, by have := HF.out; simp only [selD]; unfold I64; omega, (by unfold I64; omega : I64 0), (by unfold I64; omega : I64 0)⟩, by simp only [selD]; rw [bsL_size]; unfold maxLen; omega, fun m hm => by have := HML.out m hm; have h1 := this.a; have h2 := this.b; unfold maxLen; omega, fun s hs => by simp [selD] at hs⟩⟩
     have HB : Box (Blk (put11 W5 w.heap.size (.int .i64 (selD name l f o).kind) (.int .i64 (selD name l f o).fn) (.int .i64 (selD name l f o).win) (.int .i64 (selD name l f o).off) (.int .i64 (selD name l f o).k) (.int .i64 (selD name l f o).num) (.int .i64 (selD name l f o).den) (.string (selD name l f o).name) (.slice A9 l.length a9) nilV nilV) w.heap.size 35 (ndC (selD name l f o) (.slice A9 l.length a9) nilV nilV)) := ⟨put11_blk HS.out.st.z⟩
     have HOn : Box (Only w.heap.size W5 (put11 W5 w.heap.size (.int .i64 (selD name l f o).kind) (.int .i64 (selD name l f o).fn) (.int .i64 (selD name l f o).win) (.int .i64 (selD name l f o).off) (.int .i64 (selD name l f o).k) (.int .i64 (selD name l f o).num) (.int .i64 (selD name l f o).den) (.string (selD name l f o).name) (.slice A9 l.length a9) nilV nilV)) := ⟨put11_only ..⟩
     show bodyPost _ _ _ _ _ (put11 W5 w.heap.size (.int .i64 (selD name l f o).kind) (.int .i64 (selD name l f o).fn) (.int .i64 (selD name l f o).win) (.int .i64 (selD name l f o).off) (.int .i64 (selD name l f o).k) (.int .i64 (selD name l f o).num) (.int .i64 (selD name l f o).den) (.string (selD name l f o).name) (.slice A9 l.length a9) nilV nilV)
     generalize (put11 W5 w.heap.size (.int .i64 (selD name l f o).kind) (.int .i64 (selD name l f o).fn) (.int .i64 (selD name l f o).win) (.int .i64 (selD name l f o).off) (.int .i64 (selD name l f o).k) (.int .i64 (selD name l f o).num) (.int .i64 (selD name l f o).den) (.string (selD name l f o).name) (.slice A9 l.length a9) nilV nilV) = WF at HB HOn ⊢
     clear z0 z1 z2 z3 z4 z5 z6 z7 z8 z9 z10 zf c0 c1 c2 c3 c4 c5 c6 c7 c8 c9 c10 ef
     obtain ⟨e0, e1, e2, e3, e4, e5, e6, e7, e8, e9, e10⟩ := blk11 HB.out
     simp only [Nat.zero_add] at e1 e2 e3 e4 e5 e6 e7 e8 e9 e10
     have ef := HB.out.frozen
     refine bodyPost_ret (v := .agg (ndC (selD name l f o) (.slice A9 l.length a9) nilV nilV)) (by simp [results, Tryz.results94, go_sem, e0, e1, e2, e3, e4, e5, e6, e7, e8, e9, e10, ef]) rfl ?_
     have hg0 := HS.out.st.g0
     refine RetX.okk (HR.out.symm.trans HM3.out) (only_new2 HS.out.st.only HOn.out (Nat.le_refl _)) (HS.out.st.ps.only HOn.out hg0) ⟨_, _, _, rfl, kleaf_at HOK.out ?_ (SeqP.nil _ _ _)⟩
     exact ((SeqP.of_own (P := fun b _ => w.heap.size + 2 ≤ b) HS.out.row fun b c hb _ => hb).keep (Agree.of_only HOn.out fun b e hp => by omega)).mono fun b e _ hp => by omega
end
end Go.Proofs.YtpgdijbfkahepaaGreatDoor
