/- Book.Open. -/
import Derived.Test.YtoafpajibeejlaaFil
import Derived.Deep.RegionLaw
set_option linter.unusedVariables false
set_option linter.unusedSimpArgs false
namespace Go.Proofs.Ytoafpajibeejlaa
open Go.RowKit

theorem check_any (id cl fr un cp hd : Int) (ow se : ByteArray) (A : Option Addr) (n c : Nat) (tick : Int) (ms : List Mat) (base : Nat) (w : World) (hm : Mats w base (.slice A n c) ms)
    (hb : ∀ x ∈ ms, x.1.size ≤ maxLen ∧ x.2.2.size ≤ maxLen) (hs1 : ow.size ≤ maxLen) (hs2 : se.size ≤ maxLen) (hu : un ≤ 9223372036854775807) :
    Calls Try.prog 39 #[.agg #[.int .i64 id, .slice A n c, .string ow, .string se, .int .i64 cl, .int .i64 fr, .int .i64 un, .int .i64 cp, .int .i64 hd], .int .i64 tick] w fun e w' => e = .returned (.int .i64 (checkE ms ow se cl fr un cp tick)) ∧ Below w.heap.size w w' := by
  by_cases h : tick < 0 ∨ 1048576 < tick
  · exact check_tick id cl fr un cp hd ow se A n c tick ms w h
  · by_cases h3 : 8 < n
    · exact check_long id cl fr un cp hd ow se A n c tick ms w (by omega) (by omega) hm.len.1 h3
    · exact check_body id cl fr un cp hd ow se A n c tick ms base w (by omega) (by omega) (by omega) hm hb hs1 hs2 hu

/-- a block that is known whole -/
def Blk (w : World) (g : Nat) (t : TypeId) (cs : Array Value) : Prop := w.heap[g]? = some (.cells cs t (0, 0))
theorem Blk.new (w : World) (cs : Array Value) (t : TypeId) : Blk (w.alloc (.cells cs t)) w.heap.size t cs := heap_alloc_new w _
theorem Blk.ty {w : World} {g : Nat} {t : TypeId} {cs : Array Value} (h : Blk w g t cs) : TyAt w g t := ⟨cs, _, h⟩
theorem Blk.below {w w' : World} {g : Nat} {t : TypeId} {cs : Array Value} (h : Blk w g t cs) (hb : Below w.heap.size w w') : Blk w' g t cs := (hb.block g h.ty.lt).trans h
theorem Blk.frozen {w : World} {g : Nat} {t : TypeId} {cs : Array Value} (h : Blk w g t cs) : ∀ o, w.frozen? ⟨g, o, none⟩ = false := by
  intro o; unfold Blk at h; simp [World.frozen?, h]
theorem Blk.set {w : World} {g : Nat} {t : TypeId} {cs : Array Value} (h : Blk w g t cs) (i : Nat) (u : Value) : Blk (w.setCell ⟨g, i, none⟩ u) g t (cs.setIfInBounds i u) := by
  unfold Blk at h ⊢
  simp [World.setCell, Array.getElem?_modify, h]
theorem Blk.far {w : World} {g : Nat} {t : TypeId} {cs : Array Value} (h : Blk w g t cs) {p : Addr} (hp : g ≠ p.block) (u : Value) : Blk (w.setCell p u) g t cs := (Below.heap_setCell w p u g hp).trans h
theorem Blk.nine {w : World} {b : Nat} {t : TypeId} {v0 v1 v2 v3 v4 v5 v6 v7 v8 : Value} (h : Blk w b t #[v0, v1, v2, v3, v4, v5, v6, v7, v8]) : w.cell? ⟨b, 0, none⟩ = some v0 ∧ w.cell? ⟨b, 1, none⟩ = some v1 ∧ w.cell? ⟨b, 2, none⟩ = some v2 ∧ w.cell? ⟨b, 3, none⟩ = some v3 ∧ w.cell? ⟨b, 4, none⟩ = some v4 ∧ w.cell? ⟨b, 5, none⟩ = some v5 ∧ w.cell? ⟨b, 6, none⟩ = some v6 ∧ w.cell? ⟨b, 7, none⟩ = some v7 ∧ w.cell? ⟨b, 8, none⟩ = some v8 := by
  unfold Blk at h
  simp [World.cell?, h]

theorem Blk.keep {w w' : World} {g : Nat} {t : TypeId} {cs : Array Value} {base : Nat} {T : List TypeId} (h : Blk w g t cs) (f : Fr base T w w') (ht : t ∉ T) : Blk w' g t cs := (f.block g h.ty.lt (.inr ⟨cs, t, _, h, ht⟩)).trans h
theorem Blk.one {w : World} {g : Nat} {t : TypeId} {v : Value} (h : Blk w g t #[v]) : w.cell? ⟨g, 0, none⟩ = some v := by
  unfold Blk at h
  simp [World.cell?, h]
/-- a row of the call's own has grown: blocks of other types are as they were -/
theorem grow_fr {W W' w9 : World} {base n t size : Nat} {v : Value} {xs : List Value} (hown : W.ownsRow base t size v n xs) (hb : Below W.heap.size W W') (hg : W'.grownBy w9 v.ownBlock) : Fr base [t] W w9 :=
  Fr.grown (t := t) (Fr.of_below hb) hg (fun g hg => (own_ty (own_below hown hb)) g hg) (by simp)

theorem own_fr {w w' : World} {B t size n base : Nat} {T : List TypeId} {v : Value} {xs : List Value} (h : w.ownsRow B t size v n xs) (f : Fr base T w w') (ht : t ∉ T) : w'.ownsRow B t size v n xs := by
  refine ⟨h.1, ?_⟩
  rcases h.2 with h2 | ⟨g, cap, cur, hv, hb, hh, r⟩
  · exact .inl h2
  · exact .inr ⟨g, cap, cur, hv, hb, (f.block g (TyAt.lt ⟨_, _, hh⟩) (.inr ⟨_, _, _, hh, ht⟩)).trans hh, r⟩

/-- the numbers and strings of a silence fit -/
def SilFit (s : Sil) : Prop := MsOk s.ms ∧ s.ow.size ≤ maxLen ∧ s.se.size ≤ maxLen ∧ s.un ≤ 9223372036854775807
/-- Open, on plain data: the results, and the silences behind the call -/
def openM (l : List Sil) (s : Sil) (tick : Int) : (Int × Int) × List Sil :=
  if checkE s.ms s.ow s.se s.cl s.fr s.un s.cp tick != 0 then ((0, checkE s.ms s.ow s.se s.cl s.fr s.un s.cp tick), l)
  else if 64 ≤ (l.filter fun x => openB x.fr x.un tick).length then ((0, 4), l)
  else (((l.length : Int) + 1, 0), l ++ [{ s with id := (l.length : Int) + 1, hd := 0 }])

/-- a book's operation: its result; the book behind it -/
def RetBook (w : World) (base p : Nat) (v : Value) (sl : List Sil) (e : Ending) (w' : World) : Prop :=
  e = .returned v ∧ ∃ l, BookAt w' base p l ∧ l.map Prod.fst = sl ∧ Fr base [77, 82] w w'

theorem BookAt.below {w w' : World} {base p : Nat} {l : List (Sil × Value)} (h : BookAt w base p l) (hb : Below w.heap.size w w') : BookAt w' base p l := by
  obtain ⟨h1, sv, hh, hown, hok⟩ := h
  exact ⟨h1, sv, (hb.block p (TyAt.lt ⟨_, _, hh⟩)).trans hh, own_below hown hb, hok.below hb⟩
theorem BookAt.ty {w : World} {base p : Nat} {l : List (Sil × Value)} (h : BookAt w base p l) : TyAt w p 77 := by
  obtain ⟨h1, sv, hh, _⟩ := h
  exact ⟨_, _, hh⟩
theorem filter_len (l : List (Sil × Value)) (p : Sil → Bool) : (l.filter fun x => p x.1).length = ((l.map Prod.fst).filter p).length := by
  rw [List.filter_map, List.length_map]; rfl

set_option maxHeartbeats 1000000 in
theorem bopen_bad (p base : Nat) (l : List (Sil × Value)) (s : Sil) (A : Option Addr) (n c : Nat) (tick : Int) (w : World) (h : BookAt w base p l) (hbase : base ≤ w.heap.size) (hm : Mats w base (.slice A n c) s.ms) (hs : SilFit s)
    (hE : (checkE s.ms s.ow s.se s.cl s.fr s.un s.cp tick != 0) = true) :
    Calls Try.prog 20 #[.pointer (some ⟨p, 0, none⟩), .agg #[.int .i64 s.id, .slice A n c, .string s.ow, .string s.se, .int .i64 s.cl, .int .i64 s.fr, .int .i64 s.un, .int .i64 s.cp, .int .i64 s.hd], .int .i64 tick] w
      (RetBook w base p (.tuple #[.int .i64 (openM (l.map Prod.fst) s tick).1.1, .int .i64 (openM (l.map Prod.fst) s tick).1.2]) (openM (l.map Prod.fst) s tick).2) := by
  have E : Hid (openM (l.map Prod.fst) s tick = ((0, checkE s.ms s.ow s.se s.cl s.fr s.un s.cp tick), l.map Prod.fst)) := if_pos hE
  obtain ⟨id, ms, ow, se, cl, fr, un, cp, hd⟩ := s
  obtain ⟨hmo, hs1, hs2, hu⟩ := hs
  simp only at *
  have HB := Lib.hid h
  have HM := Lib.hid hm
  have HO := Lib.hid hmo
  clear h hm hmo
  go_enter Try.func20, Try.ntmps20
  go_wp2_with (go_at_call 39; refine (check_any _ _ _ _ _ _ _ _ _ _ _ _ ms base _ (by exact HM.out.below (bel1 _ _)) HO.out.2 hs1 hs2 hu).mono ?_; rintro e w1 ⟨rfl, hb1⟩; have HB1 := Lib.hid hb1; clear hb1)
  go_ret2
  rw [E.out]
  exact ⟨rfl, l, (HB.out.below (bel1 _ _)).below HB1.out, rfl, (Fr.of_below (bel1 _ _)).then_ HB1.out⟩

theorem open_end {w W8 w9 : World} {base p g cap : Nat} {l : List (Sil × Value)} {s : Sil} {mv bv : Value} (h : BookAt w base p l) (hW : Below w.heap.size w W8) (hm : Mats W8 base mv s.ms) (hms : MsOk s.ms)
    (f9 : Fr base [82] W8 w9) (b9 : Blk w9 p 77 #[bv]) (hown : w9.ownsRow base 82 9 (.slice (some ⟨g, 0, none⟩) (l.length + 1) cap) (l.length + 1) (rowCells l ++ silCells (s, mv))) :
    BookAt (w9.setCell ⟨p, 0, none⟩ (.slice (some ⟨g, 0, none⟩) (l.length + 1) cap)) base p (l ++ [(s, mv)]) ∧ Fr base [77, 82] w (w9.setCell ⟨p, 0, none⟩ (.slice (some ⟨g, 0, none⟩) (l.length + 1) cap)) := by
  have f10 : Fr base [77] w9 (w9.setCell ⟨p, 0, none⟩ (.slice (some ⟨g, 0, none⟩) (l.length + 1) cap)) := Fr.setAt (Fr.refl _ _ _) b9.ty (by decide) h.1 0 _
  refine ⟨⟨h.1, _, b9.set 0 _, ?_, ?_⟩, ?_⟩
  · rw [List.length_append, rowCells_snoc]; exact own_fr hown f10 (by decide)
  · obtain ⟨_, _, _, _, hok⟩ := h
    intro x hx
    rcases List.mem_append.1 hx with hx | hx
    · exact ((hok.below hW).keep f9 (by decide)).keep f10 (by decide) x hx
    · simp at hx; subst hx
      exact ⟨(hm.keep f9 (by decide)).keep f10 (by decide), hms⟩
  · exact ((Fr.of_below hW).trans (f9.more (by simp))).trans (f10.more (by simp))

set_option maxHeartbeats 1000000 in
theorem bopen_good (p base : Nat) (l : List (Sil × Value)) (s : Sil) (A : Option Addr) (n c : Nat) (tick : Int) (w : World) (h : BookAt w base p l) (hbase : base ≤ w.heap.size) (hm : Mats w base (.slice A n c) s.ms) (hs : SilFit s) (hl : l.length ≤ 10000)
    (hE : (checkE s.ms s.ow s.se s.cl s.fr s.un s.cp tick != 0) = false) (hc : ((l.map Prod.fst).filter fun x => openB x.fr x.un tick).length < 64) :
    Calls Try.prog 20 #[.pointer (some ⟨p, 0, none⟩), .agg #[.int .i64 s.id, .slice A n c, .string s.ow, .string s.se, .int .i64 s.cl, .int .i64 s.fr, .int .i64 s.un, .int .i64 s.cp, .int .i64 s.hd], .int .i64 tick] w
      (RetBook w base p (.tuple #[.int .i64 (openM (l.map Prod.fst) s tick).1.1, .int .i64 (openM (l.map Prod.fst) s tick).1.2]) (openM (l.map Prod.fst) s tick).2) := by
  have E : Hid (openM (l.map Prod.fst) s tick = (((l.length : Int) + 1, (0 : Int)), l.map Prod.fst ++ [{ s with id := (l.length : Int) + 1, hd := 0 }])) := by
    unfold openM
    rw [Hid, if_neg (by simp [hE]), if_neg (by omega)]; simp
  have hc' : (l.filter (fun x => openB x.1.fr x.1.un tick)).length < 64 := by rw [filter_len l (fun s => openB s.fr s.un tick)]; exact hc
  clear hc
  obtain ⟨id, ms, ow, se, cl, fr, un, cp, hd⟩ := s
  obtain ⟨hmo, hs1, hs2, hu⟩ := hs
  simp only at *
  have hn1 : n ≤ 1000 := by rw [hm.len.1]; exact hmo.1
  obtain ⟨A0, c0, hbc, hbf, hp, hown, hss⟩ := h.form
  have HBK0 : Hid (Blk w p 77 #[.slice A0 l.length c0]) := by
    obtain ⟨_, sv, hh, _⟩ := h
    have : sv = .slice A0 l.length c0 := by simpa [World.cell?, hh] using hbc
    rw [this] at hh; exact hh
  have HB := Lib.hid h
  have HM := Lib.hid hm
  have HO := Lib.hid hmo
  have HOWN := Lib.hid hown
  clear h hm hmo hown hss
  go_enter Try.func20, Try.ntmps20
  go_wp2_with (first
    | (go_at_call 39; refine (check_any _ _ _ _ _ _ _ _ _ _ _ _ ms base _ (by exact HM.out.below (bel1 _ _)) HO.out.2 hs1 hs2 hu).mono ?_; rintro e w1 ⟨rfl, hb1⟩; have HB1 : Hid (Below w.heap.size w w1 ∧ Blk w1 w.heap.size 24 #[.int .i64 id, .slice A n c, .string ow, .string se, .int .i64 cl, .int .i64 fr, .int .i64 un, .int .i64 cp, .int .i64 hd]) := ⟨(bel1 _ _).trans (hb1.mono (by simp)), (Blk.new _ _ _).below hb1⟩; clear hb1)
    | (go_at_call 40; refine (filter_open _ p base l tick _ (by exact HB.out.below HB1.out.1) (by omega) (by have := HB1.out.1.size; omega) (fun _ _ _ _ _ _ _ _ _ _ _ => by kernel_rfl)).mono ?_; rintro e w2 ⟨A2, c2, rfl, ho2, hk2, hb2⟩; have HB2 : Hid (Below w.heap.size w w2 ∧ Blk w2 w.heap.size 24 #[.int .i64 id, .slice A n c, .string ow, .string se, .int .i64 cl, .int .i64 fr, .int .i64 un, .int .i64 cp, .int .i64 hd]) := ⟨HB1.out.1.trans (hb2.mono HB1.out.1.size), HB1.out.2.below hb2⟩; obtain ⟨d0, d1, d2, d3, d4, d5, d6, d7, d8⟩ := HB2.out.2.nine; have df := HB2.out.2.frozen; have dp := bat HB2.out.1 hp hbc; have dpf := (HB2.out.1.frozen (p := ⟨p, 0, none⟩) hp).trans hbf; have hz2 : w.heap.size < w2.heap.size := HB2.out.2.ty.lt; clear hb2 ho2 hk2)
    | (go_at_call 42; refine (clone_any _ _ _ base ms _ (by exact HM.out.below (HB2.out.1.setCell (Nat.le_refl _) _ |>.setCell (Nat.le_refl _) _)) hn1).mono ?_; rintro e w3 ⟨A3, n3, c3, rfl, hm3, hb3⟩; obtain ⟨hc3, hf3⟩ := bcell hb3; have hz3 := hb3.size; have HM3 := Lib.hid hm3; have HB3 := Lib.hid hb3; clear hm3 hb3))
  have HW : Hid (Below w.heap.size w (w3.setCell ⟨w.heap.size, 1, none⟩ (.slice A3 n3 c3)) ∧ Blk (w3.setCell ⟨w.heap.size, 1, none⟩ (.slice A3 n3 c3)) w.heap.size 24 #[.int .i64 ((l.length : Int) + 1), .slice A3 n3 c3, .string ow, .string se, .int .i64 cl, .int .i64 fr, .int .i64 un, .int .i64 cp, .int .i64 0] ∧ Mats (w3.setCell ⟨w.heap.size, 1, none⟩ (.slice A3 n3 c3)) base (.slice A3 n3 c3) ms) := by
    have b2 := ((HB2.out.2.set 0 (.int .i64 ((l.length : Int) + 1))).set 8 (.int .i64 0)).below HB3.out
    have h3 : Below w.heap.size w w3 := (HB2.out.1.setCell (p := ⟨w.heap.size, 0, none⟩) (Nat.le_refl _) _ |>.setCell (p := ⟨w.heap.size, 8, none⟩) (Nat.le_refl _) _).trans (HB3.out.mono (by simp [World.setCell]; omega))
    exact ⟨h3.setCell (p := ⟨w.heap.size, 1, none⟩) (Nat.le_refl _) _, b2.set 1 _, HM3.out.keep (Fr.setAt (Fr.refl base [24] _) b2.ty (by decide) hbase 1 _) (by decide)⟩
  clear hc3 hf3 d0 d1 d2 d3 d4 d5 d6 d7 d8 df dp dpf hz3 HM3 HB3 HB2 HB1 hz2
  obtain ⟨W8, hW8⟩ : ∃ W8, W8 = w3.setCell ⟨w.heap.size, 1, none⟩ (.slice A3 n3 c3) := ⟨_, rfl⟩
  rw [← hW8] at HW ⊢
  clear hW8
  obtain ⟨d0, d1, d2, d3, d4, d5, d6, d7, d8⟩ := HW.out.2.1.nine
  have df := HW.out.2.1.frozen
  have dp := bat HW.out.1 hp hbc
  have dpf := (HW.out.1.frozen (p := ⟨p, 0, none⟩) hp).trans hbf
  have hz8 : w.heap.size < W8.heap.size := HW.out.2.1.ty.lt
  have HOW : Hid (W8.ownsRow base 82 9 (.slice A0 l.length c0) l.length (rowCells l)) := own_below HOWN.out HW.out.1
  have HBK : Hid (Blk W8 p 77 #[.slice A0 l.length c0]) := Blk.below HBK0.out HW.out.1
  obtain ⟨i0, hi, hz0, hz1, hz2⟩ := info_parts entInfo
  have hp8 : p < W8.heap.size := HBK.out.ty.lt
  have hne1 := World.new_ne W8 ⟨p, 0, none⟩ dp
  have hne2 := World.new_ne W8 ⟨w.heap.size, 0, none⟩ d0
  have HI := Lib.hid (And.intro hi (And.intro hz0 (And.intro hz1 hz2)))
  clear hi hz0 hz1 hz2
  go_region_law (first | (refine step_append_lies _ rfl _ _ 75 rfl base 82 i0 _ 9 104 Try.underlying75 HI.out.1 HI.out.2.1 HI.out.2.2.1 HI.out.2.2.2 rfl (by decide) _ l.length (rowCells l) rfl (by exact (HOW.out).alloc _) ⟨W8.heap.size, 0, none⟩ 1 1 (silCells (⟨(l.length : Int) + 1, ms, ow, se, cl, fr, un, cp, 0⟩, .slice A3 n3 c3)) rfl rfl (cells9 _ _ _ _ _ _ _ _ _ _ _) (silCells_one _ _ _ _) (by decide) (by simp only [maxLen]; omega) (by omega) (by simp; omega) _ rfl ?_; intro g cap w9 hown9 hg9 hat9 hlt9; have HF9 : Hid (Fr base [82] W8 w9) := grow_fr HOW.out (by first | exact bel1 _ _ | exact (bel1 _ _).drew) hg9; have HB9 : Hid (Blk w9 p 77 #[.slice A0 l.length c0]) := HBK.out.keep HF9.out (by decide); have e9 := HB9.out.one; have ef9 := HB9.out.frozen))
  all_goals
    have HL9 : Hid (Blk w9 w.heap.size 24 #[.int .i64 ((l.length : Int) + 1), .slice A3 n3 c3, .string ow, .string se, .int .i64 cl, .int .i64 fr, .int .i64 un, .int .i64 cp, .int .i64 0]) := HW.out.2.1.keep HF9.out (by decide)
    have d9 := HL9.out.nine.1
    have HFIN : Hid (BookAt (w9.setCell ⟨p, 0, none⟩ (.slice (some ⟨g, 0, none⟩) (l.length + 1) cap)) base p (l ++ [(⟨(l.length : Int) + 1, ms, ow, se, cl, fr, un, cp, 0⟩, .slice A3 n3 c3)]) ∧ Fr base [77, 82] w (w9.setCell ⟨p, 0, none⟩ (.slice (some ⟨g, 0, none⟩) (l.length + 1) cap))) :=
      open_end HB.out HW.out.1 HW.out.2.2 HO.out HF9.out HB9.out hown9
    clear hown9 hg9 hat9 hlt9 e9 ef9 hne1 hne2 dp dpf d1 d2 d3 d4 d5 d6 d7 d8
    go_wp2
    go_ret2
    rw [E.out]
    exact ⟨rfl, _, HFIN.out.1, by simp, HFIN.out.2⟩

set_option maxHeartbeats 1000000 in
theorem bopen_full (p base : Nat) (l : List (Sil × Value)) (s : Sil) (A : Option Addr) (n c : Nat) (tick : Int) (w : World) (h : BookAt w base p l) (hbase : base ≤ w.heap.size) (hm : Mats w base (.slice A n c) s.ms) (hs : SilFit s) (hl : l.length ≤ 10000)
    (hE : (checkE s.ms s.ow s.se s.cl s.fr s.un s.cp tick != 0) = false) (hc : 64 ≤ ((l.map Prod.fst).filter fun x => openB x.fr x.un tick).length) :
    Calls Try.prog 20 #[.pointer (some ⟨p, 0, none⟩), .agg #[.int .i64 s.id, .slice A n c, .string s.ow, .string s.se, .int .i64 s.cl, .int .i64 s.fr, .int .i64 s.un, .int .i64 s.cp, .int .i64 s.hd], .int .i64 tick] w
      (RetBook w base p (.tuple #[.int .i64 (openM (l.map Prod.fst) s tick).1.1, .int .i64 (openM (l.map Prod.fst) s tick).1.2]) (openM (l.map Prod.fst) s tick).2) := by
  have E : Hid (openM (l.map Prod.fst) s tick = ((0, 4), l.map Prod.fst)) := by
    unfold openM
    rw [Hid, if_neg (by simp [hE]), if_pos hc]
  have hc' : 64 ≤ (l.filter (fun x => openB x.1.fr x.1.un tick)).length := by rw [filter_len l (fun s => openB s.fr s.un tick)]; exact hc
  clear hc
  obtain ⟨id, ms, ow, se, cl, fr, un, cp, hd⟩ := s
  obtain ⟨hmo, hs1, hs2, hu⟩ := hs
  simp only at *
  have HB := Lib.hid h
  have HM := Lib.hid hm
  have HO := Lib.hid hmo
  clear h hm hmo
  go_enter Try.func20, Try.ntmps20
  go_wp2_with (first
    | (go_at_call 39; refine (check_any _ _ _ _ _ _ _ _ _ _ _ _ ms base _ (by exact HM.out.below (bel1 _ _)) HO.out.2 hs1 hs2 hu).mono ?_; rintro e w1 ⟨rfl, hb1⟩; have HB1 : Hid (Below w.heap.size w w1) := (bel1 _ _).trans (hb1.mono (by simp)); clear hb1)
    | (go_at_call 40; refine (filter_open _ p base l tick _ (by exact HB.out.below HB1.out) (by omega) (by have := HB1.out.size; omega) (fun _ _ _ _ _ _ _ _ _ _ _ => by kernel_rfl)).mono ?_; rintro e w2 ⟨A2, c2, rfl, ho2, hk2, hb2⟩; have HB2 : Hid (Below w.heap.size w w2) := HB1.out.trans (hb2.mono HB1.out.size); clear hb2 ho2 hk2))
  go_ret2
  rw [E.out]
  exact ⟨rfl, l, HB.out.below HB2.out, rfl, Fr.of_below HB2.out⟩

theorem bopen_any (p base : Nat) (l : List (Sil × Value)) (s : Sil) (A : Option Addr) (n c : Nat) (tick : Int) (w : World) (h : BookAt w base p l) (hbase : base ≤ w.heap.size) (hm : Mats w base (.slice A n c) s.ms) (hs : SilFit s) (hl : l.length ≤ 10000) :
    Calls Try.prog 20 #[.pointer (some ⟨p, 0, none⟩), .agg #[.int .i64 s.id, .slice A n c, .string s.ow, .string s.se, .int .i64 s.cl, .int .i64 s.fr, .int .i64 s.un, .int .i64 s.cp, .int .i64 s.hd], .int .i64 tick] w
      (RetBook w base p (.tuple #[.int .i64 (openM (l.map Prod.fst) s tick).1.1, .int .i64 (openM (l.map Prod.fst) s tick).1.2]) (openM (l.map Prod.fst) s tick).2) := by
  by_cases hE : (checkE s.ms s.ow s.se s.cl s.fr s.un s.cp tick != 0) = true
  · exact bopen_bad p base l s A n c tick w h hbase hm hs hE
  · have hE' : (checkE s.ms s.ow s.se s.cl s.fr s.un s.cp tick != 0) = false := by simpa using hE
    by_cases hc : 64 ≤ ((l.map Prod.fst).filter fun x => openB x.fr x.un tick).length
    · exact bopen_full p base l s A n c tick w h hbase hm hs hl hE' hc
    · exact bopen_good p base l s A n c tick w h hbase hm hs hl hE' (by omega)
end Go.Proofs.Ytoafpajibeejlaa
