/- The program's book, with footprints. -/
import Derived.Test.YtoafpajibeejlaaFoot
set_option linter.unusedVariables false
set_option linter.unusedSimpArgs false
namespace Go.Proofs.Ytoafpajibeejlaa.F
open Go.RowKit

/-- a book's operation: its result; the book behind it -/
def RetBook (w : World) (base p : Nat) (v : Value) (sl : List Sil) (e : Ending) (w' : World) : Prop :=
  e = .returned v ∧ ∃ l, BookAt w' base p l ∧ l.map Prod.fst = sl ∧ Fr base [77, 82] w w' ∧ FF p w w'

theorem ne_of_ty {w : World} {a b : Nat} {t t' : TypeId} (h : TyAt w a t) (h' : TyAt w b t') (hne : t ≠ t') : a ≠ b := by
  rintro rfl
  obtain ⟨c1, f1, e1⟩ := h
  obtain ⟨c2, f2, e2⟩ := h'
  rw [e1] at e2
  cases e2
  exact hne rfl
set_option maxHeartbeats 1000000 in
theorem bopen_bad (p base : Nat) (l : List (Sil × Value)) (s : Sil) (A : Option Addr) (n c : Nat) (tick : Int) (w : World) (h : BookAt w base p l) (hbase : base ≤ w.heap.size) (hm : Mats w base (.slice A n c) s.ms) (hs : SilFit s)
    (hE : (checkE s.ms s.ow s.se s.cl s.fr s.un s.cp tick != 0) = true) :
    Calls Try.prog 20 #[.pointer (some ⟨p, 0, none⟩), .agg #[.int .i64 s.id, .slice A n c, .string s.ow, .string s.se, .int .i64 s.cl, .int .i64 s.fr, .int .i64 s.un, .int .i64 s.cp, .int .i64 s.hd], .int .i64 tick] w
      (RetBook w base p (.tuple #[.int .i64 (openM (l.map Prod.fst) s tick).1.1, .int .i64 (openM (l.map Prod.fst) s tick).1.2]) (openM (l.map Prod.fst) s tick).2) := by
  have E : Hid (openM (l.map Prod.fst) s tick = ((0, checkE s.ms s.ow s.se s.cl s.fr s.un s.cp tick), l.map Prod.fst)) := if_pos hE
  obtain ⟨id, ms, ow, se, cl, fr, un, cp, hd⟩ := s
  obtain ⟨hmo, hs1, hs2, hu⟩ := hs
  simp only at *
  have HB := Lib.hid h
  have HM := Lib.hid hm
  have HO := Lib.hid hmo
  clear h hm hmo
  go_enter Try.func20, Try.ntmps20
  go_wp2_with (go_at_call 39; refine (check_any _ _ _ _ _ _ _ _ _ _ _ _ ms base _ (by exact HM.out.below (bel1 _ _)) HO.out.2 hs1 hs2 hu).mono ?_; rintro e w1 ⟨rfl, hb1⟩; have HB1 := Lib.hid hb1; clear hb1)
  go_ret2
  rw [E.out]
  exact ⟨rfl, l, (HB.out.below (bel1 _ _)).below HB1.out, rfl, ⟨(Fr.of_below (bel1 _ _)).then_ HB1.out, FF.of_below (HB.out.ty.lt) ((bel1 _ _).trans (HB1.out.mono (by simp)))⟩⟩

theorem open_end {w W8 w9 : World} {base p g cap : Nat} {l : List (Sil × Value)} {s : Sil} {mv bv : Value} (h : BookAt w base p l) (hW : Below w.heap.size w W8) (hm : Mats W8 base mv s.ms) (hms : MsOk s.ms)
    (f9 : Fr base [82] W8 w9) (b9 : Blk w9 p 77 #[bv]) (hown : w9.ownsRow base 82 9 (.slice (some ⟨g, 0, none⟩) (l.length + 1) cap) (l.length + 1) (rowCells l ++ silCells (s, mv))) (hff : FF p w (w9.setCell ⟨p, 0, none⟩ (.slice (some ⟨g, 0, none⟩) (l.length + 1) cap))) :
    BookAt (w9.setCell ⟨p, 0, none⟩ (.slice (some ⟨g, 0, none⟩) (l.length + 1) cap)) base p (l ++ [(s, mv)]) ∧ (Fr base [77, 82] w (w9.setCell ⟨p, 0, none⟩ (.slice (some ⟨g, 0, none⟩) (l.length + 1) cap)) ∧ FF p w (w9.setCell ⟨p, 0, none⟩ (.slice (some ⟨g, 0, none⟩) (l.length + 1) cap))) := by
  have f10 : Fr base [77] w9 (w9.setCell ⟨p, 0, none⟩ (.slice (some ⟨g, 0, none⟩) (l.length + 1) cap)) := Fr.setAt (Fr.refl _ _ _) b9.ty (by decide) h.1 0 _
  refine ⟨⟨h.1, _, b9.set 0 _, ?_, ?_⟩, ?_⟩
  · rw [List.length_append, rowCells_snoc]; exact own_fr hown f10 (by decide)
  · obtain ⟨_, _, _, _, hok⟩ := h
    intro x hx
    rcases List.mem_append.1 hx with hx | hx
    · exact ((hok.below hW).keep f9 (by decide)).keep f10 (by decide) x hx
    · simp at hx; subst hx
      exact ⟨(hm.keep f9 (by decide)).keep f10 (by decide), hms⟩
  · exact ⟨((Fr.of_below hW).trans (f9.more (by simp))).trans (f10.more (by simp)), hff⟩

set_option maxHeartbeats 1000000 in
theorem bopen_good (p base : Nat) (l : List (Sil × Value)) (s : Sil) (A : Option Addr) (n c : Nat) (tick : Int) (w : World) (h : BookAt w base p l) (hbase : base ≤ w.heap.size) (hm : Mats w base (.slice A n c) s.ms) (hs : SilFit s) (hl : l.length ≤ 10000)
    (hE : (checkE s.ms s.ow s.se s.cl s.fr s.un s.cp tick != 0) = false) (hc : ((l.map Prod.fst).filter fun x => openB x.fr x.un tick).length < 64) :
    Calls Try.prog 20 #[.pointer (some ⟨p, 0, none⟩), .agg #[.int .i64 s.id, .slice A n c, .string s.ow, .string s.se, .int .i64 s.cl, .int .i64 s.fr, .int .i64 s.un, .int .i64 s.cp, .int .i64 s.hd], .int .i64 tick] w
      (RetBook w base p (.tuple #[.int .i64 (openM (l.map Prod.fst) s tick).1.1, .int .i64 (openM (l.map Prod.fst) s tick).1.2]) (openM (l.map Prod.fst) s tick).2) := by
  have E : Hid (openM (l.map Prod.fst) s tick = (((l.length : Int) + 1, (0 : Int)), l.map Prod.fst ++ [{ s with id := (l.length : Int) + 1, hd := 0 }])) := by
    unfold openM
    rw [Hid, if_neg (by simp [hE]), if_neg (by omega)]; simp
  have hc' : (l.filter (fun x => openB x.1.fr x.1.un tick)).length < 64 := by rw [filter_len l (fun s => openB s.fr s.un tick)]; exact hc
  clear hc
  obtain ⟨id, ms, ow, se, cl, fr, un, cp, hd⟩ := s
  obtain ⟨hmo, hs1, hs2, hu⟩ := hs
  simp only at *
  have hn1 : n ≤ 1000 := by rw [hm.len.1]; exact hmo.1
  obtain ⟨A0, c0, hbc, hbf, hp, hown, hss⟩ := h.form
  have HBK0 : Hid (Blk w p 77 #[.slice A0 l.length c0]) := by
    obtain ⟨_, sv, hh, _⟩ := h
    have : sv = .slice A0 l.length c0 := by simpa [World.cell?, hh] using hbc
    rw [this] at hh; exact hh
  have HB := Lib.hid h
  have HM := Lib.hid hm
  have HO := Lib.hid hmo
  have HOWN := Lib.hid hown
  clear h hm hmo hown hss
  go_enter Try.func20, Try.ntmps20
  go_wp2_with (first
    | (go_at_call 39; refine (check_any _ _ _ _ _ _ _ _ _ _ _ _ ms base _ (by exact HM.out.below (bel1 _ _)) HO.out.2 hs1 hs2 hu).mono ?_; rintro e w1 ⟨rfl, hb1⟩; have HB1 : Hid (Below w.heap.size w w1 ∧ Blk w1 w.heap.size 24 #[.int .i64 id, .slice A n c, .string ow, .string se, .int .i64 cl, .int .i64 fr, .int .i64 un, .int .i64 cp, .int .i64 hd]) := ⟨(bel1 _ _).trans (hb1.mono (by simp)), (Blk.new _ _ _).below hb1⟩; clear hb1)
    | (go_at_call 40; refine (filter_open _ p base l tick _ (by exact HB.out.below HB1.out.1) (by omega) (by have := HB1.out.1.size; omega) (fun _ _ _ _ _ _ _ _ _ _ _ => by kernel_rfl)).mono ?_; rintro e w2 ⟨A2, c2, rfl, ho2, hk2, hb2⟩; have HB2 : Hid (Below w.heap.size w w2 ∧ Blk w2 w.heap.size 24 #[.int .i64 id, .slice A n c, .string ow, .string se, .int .i64 cl, .int .i64 fr, .int .i64 un, .int .i64 cp, .int .i64 hd]) := ⟨HB1.out.1.trans (hb2.mono HB1.out.1.size), HB1.out.2.below hb2⟩; obtain ⟨d0, d1, d2, d3, d4, d5, d6, d7, d8⟩ := HB2.out.2.nine; have df := HB2.out.2.frozen; have dp := bat HB2.out.1 hp hbc; have dpf := (HB2.out.1.frozen (p := ⟨p, 0, none⟩) hp).trans hbf; have hz2 : w.heap.size < w2.heap.size := HB2.out.2.ty.lt; clear hb2 ho2 hk2)
    | (go_at_call 42; refine (clone_any _ _ _ base ms _ (by exact HM.out.below (HB2.out.1.setCell (Nat.le_refl _) _ |>.setCell (Nat.le_refl _) _)) hn1).mono ?_; rintro e w3 ⟨A3, n3, c3, rfl, hm3, hb3⟩; obtain ⟨hc3, hf3⟩ := bcell hb3; have hz3 := hb3.size; have HM3 := Lib.hid hm3; have HB3 := Lib.hid hb3; clear hm3 hb3))
  have HW : Hid (Below w.heap.size w (w3.setCell ⟨w.heap.size, 1, none⟩ (.slice A3 n3 c3)) ∧ Blk (w3.setCell ⟨w.heap.size, 1, none⟩ (.slice A3 n3 c3)) w.heap.size 24 #[.int .i64 ((l.length : Int) + 1), .slice A3 n3 c3, .string ow, .string se, .int .i64 cl, .int .i64 fr, .int .i64 un, .int .i64 cp, .int .i64 0] ∧ Mats (w3.setCell ⟨w.heap.size, 1, none⟩ (.slice A3 n3 c3)) base (.slice A3 n3 c3) ms) := by
    have b2 := ((HB2.out.2.set 0 (.int .i64 ((l.length : Int) + 1))).set 8 (.int .i64 0)).below HB3.out
    have h3 : Below w.heap.size w w3 := (HB2.out.1.setCell (p := ⟨w.heap.size, 0, none⟩) (Nat.le_refl _) _ |>.setCell (p := ⟨w.heap.size, 8, none⟩) (Nat.le_refl _) _).trans (HB3.out.mono (by simp [World.setCell]; omega))
    exact ⟨h3.setCell (p := ⟨w.heap.size, 1, none⟩) (Nat.le_refl _) _, b2.set 1 _, HM3.out.keep (Fr.setAt (Fr.refl base [24] _) b2.ty (by decide) hbase 1 _) (by decide)⟩
  clear hc3 hf3 d0 d1 d2 d3 d4 d5 d6 d7 d8 df dp dpf hz3 HM3 HB3 HB2 HB1 hz2
  obtain ⟨W8, hW8⟩ : ∃ W8, W8 = w3.setCell ⟨w.heap.size, 1, none⟩ (.slice A3 n3 c3) := ⟨_, rfl⟩
  rw [← hW8] at HW ⊢
  clear hW8
  obtain ⟨d0, d1, d2, d3, d4, d5, d6, d7, d8⟩ := HW.out.2.1.nine
  have df := HW.out.2.1.frozen
  have dp := bat HW.out.1 hp hbc
  have dpf := (HW.out.1.frozen (p := ⟨p, 0, none⟩) hp).trans hbf
  have hz8 : w.heap.size < W8.heap.size := HW.out.2.1.ty.lt
  have HOW : Hid (W8.ownsRow base 82 9 (.slice A0 l.length c0) l.length (rowCells l)) := own_below HOWN.out HW.out.1
  have HBK : Hid (Blk W8 p 77 #[.slice A0 l.length c0]) := Blk.below HBK0.out HW.out.1
  obtain ⟨i0, hi, hz0, hz1, hz2⟩ := info_parts entInfo
  have hp8 : p < W8.heap.size := HBK.out.ty.lt
  have hne1 := World.new_ne W8 ⟨p, 0, none⟩ dp
  have hne2 := World.new_ne W8 ⟨w.heap.size, 0, none⟩ d0
  have HI := Lib.hid (And.intro hi (And.intro hz0 (And.intro hz1 hz2)))
  clear hi hz0 hz1 hz2
  go_region_law (first | (refine step_append_lies _ rfl _ _ 75 rfl base 82 i0 _ 9 104 Try.underlying75 HI.out.1 HI.out.2.1 HI.out.2.2.1 HI.out.2.2.2 rfl (by decide) _ l.length (rowCells l) rfl (by exact (HOW.out).alloc _) ⟨W8.heap.size, 0, none⟩ 1 1 (silCells (⟨(l.length : Int) + 1, ms, ow, se, cl, fr, un, cp, 0⟩, .slice A3 n3 c3)) rfl rfl (cells9 _ _ _ _ _ _ _ _ _ _ _) (silCells_one _ _ _ _) (by decide) (by simp only [maxLen]; omega) (by omega) (by simp; omega) _ rfl ?_; intro g cap w9 hown9 hg9 hat9 hlt9; have HF9 : Hid (Fr base [82] W8 w9) := grow_fr HOW.out (by first | exact bel1 _ _ | exact (bel1 _ _).drew) hg9; have HB9 : Hid (Blk w9 p 77 #[.slice A0 l.length c0]) := HBK.out.keep HF9.out (by decide); have e9 := HB9.out.one; have ef9 := HB9.out.frozen))
  all_goals
    have HL9 : Hid (Blk w9 w.heap.size 24 #[.int .i64 ((l.length : Int) + 1), .slice A3 n3 c3, .string ow, .string se, .int .i64 cl, .int .i64 fr, .int .i64 un, .int .i64 cp, .int .i64 0]) := HW.out.2.1.keep HF9.out (by decide)
    have d9 := HL9.out.nine.1
    have HFIN : Hid (BookAt (w9.setCell ⟨p, 0, none⟩ (.slice (some ⟨g, 0, none⟩) (l.length + 1) cap)) base p (l ++ [(⟨(l.length : Int) + 1, ms, ow, se, cl, fr, un, cp, 0⟩, .slice A3 n3 c3)]) ∧ (Fr base [77, 82] w (w9.setCell ⟨p, 0, none⟩ (.slice (some ⟨g, 0, none⟩) (l.length + 1) cap)) ∧ FF p w (w9.setCell ⟨p, 0, none⟩ (.slice (some ⟨g, 0, none⟩) (l.length + 1) cap)))) :=
      open_end HB.out HW.out.1 HW.out.2.2 HO.out HF9.out HB9.out hown9 (FF.grow (HW.out.1.trans ((by first | exact bel1 _ _ | exact (bel1 _ _).drew : Below W8.heap.size W8 _).mono HW.out.1.size)) HBK0.out hg9 HB9.out hat9 (by simp; omega))
    clear hown9 hg9 hat9 hlt9 e9 ef9 hne1 hne2 dp dpf d1 d2 d3 d4 d5 d6 d7 d8
    go_wp2
    go_ret2
    rw [E.out]
    exact ⟨rfl, _, HFIN.out.1, by simp, HFIN.out.2⟩

set_option maxHeartbeats 1000000 in
theorem bopen_full (p base : Nat) (l : List (Sil × Value)) (s : Sil) (A : Option Addr) (n c : Nat) (tick : Int) (w : World) (h : BookAt w base p l) (hbase : base ≤ w.heap.size) (hm : Mats w base (.slice A n c) s.ms) (hs : SilFit s) (hl : l.length ≤ 10000)
    (hE : (checkE s.ms s.ow s.se s.cl s.fr s.un s.cp tick != 0) = false) (hc : 64 ≤ ((l.map Prod.fst).filter fun x => openB x.fr x.un tick).length) :
    Calls Try.prog 20 #[.pointer (some ⟨p, 0, none⟩), .agg #[.int .i64 s.id, .slice A n c, .string s.ow, .string s.se, .int .i64 s.cl, .int .i64 s.fr, .int .i64 s.un, .int .i64 s.cp, .int .i64 s.hd], .int .i64 tick] w
      (RetBook w base p (.tuple #[.int .i64 (openM (l.map Prod.fst) s tick).1.1, .int .i64 (openM (l.map Prod.fst) s tick).1.2]) (openM (l.map Prod.fst) s tick).2) := by
  have E : Hid (openM (l.map Prod.fst) s tick = ((0, 4), l.map Prod.fst)) := by
    unfold openM
    rw [Hid, if_neg (by simp [hE]), if_pos hc]
  have hc' : 64 ≤ (l.filter (fun x => openB x.1.fr x.1.un tick)).length := by rw [filter_len l (fun s => openB s.fr s.un tick)]; exact hc
  clear hc
  obtain ⟨id, ms, ow, se, cl, fr, un, cp, hd⟩ := s
  obtain ⟨hmo, hs1, hs2, hu⟩ := hs
  simp only at *
  have HB := Lib.hid h
  have HM := Lib.hid hm
  have HO := Lib.hid hmo
  clear h hm hmo
  go_enter Try.func20, Try.ntmps20
  go_wp2_with (first
    | (go_at_call 39; refine (check_any _ _ _ _ _ _ _ _ _ _ _ _ ms base _ (by exact HM.out.below (bel1 _ _)) HO.out.2 hs1 hs2 hu).mono ?_; rintro e w1 ⟨rfl, hb1⟩; have HB1 : Hid (Below w.heap.size w w1) := (bel1 _ _).trans (hb1.mono (by simp)); clear hb1)
    | (go_at_call 40; refine (filter_open _ p base l tick _ (by exact HB.out.below HB1.out) (by omega) (by have := HB1.out.size; omega) (fun _ _ _ _ _ _ _ _ _ _ _ => by kernel_rfl)).mono ?_; rintro e w2 ⟨A2, c2, rfl, ho2, hk2, hb2⟩; have HB2 : Hid (Below w.heap.size w w2) := HB1.out.trans (hb2.mono HB1.out.size); clear hb2 ho2 hk2))
  go_ret2
  rw [E.out]
  exact ⟨rfl, l, HB.out.below HB2.out, rfl, ⟨Fr.of_below HB2.out, FF.of_below (HB.out.ty.lt) HB2.out⟩⟩

theorem bopen_any (p base : Nat) (l : List (Sil × Value)) (s : Sil) (A : Option Addr) (n c : Nat) (tick : Int) (w : World) (h : BookAt w base p l) (hbase : base ≤ w.heap.size) (hm : Mats w base (.slice A n c) s.ms) (hs : SilFit s) (hl : l.length ≤ 10000) :
    Calls Try.prog 20 #[.pointer (some ⟨p, 0, none⟩), .agg #[.int .i64 s.id, .slice A n c, .string s.ow, .string s.se, .int .i64 s.cl, .int .i64 s.fr, .int .i64 s.un, .int .i64 s.cp, .int .i64 s.hd], .int .i64 tick] w
      (RetBook w base p (.tuple #[.int .i64 (openM (l.map Prod.fst) s tick).1.1, .int .i64 (openM (l.map Prod.fst) s tick).1.2]) (openM (l.map Prod.fst) s tick).2) := by
  by_cases hE : (checkE s.ms s.ow s.se s.cl s.fr s.un s.cp tick != 0) = true
  · exact bopen_bad p base l s A n c tick w h hbase hm hs hE
  · have hE' : (checkE s.ms s.ow s.se s.cl s.fr s.un s.cp tick != 0) = false := by simpa using hE
    by_cases hc : 64 ≤ ((l.map Prod.fst).filter fun x => openB x.fr x.un tick).length
    · exact bopen_full p base l s A n c tick w h hbase hm hs hl hE' hc
    · exact bopen_good p base l s A n c tick w h hbase hm hs hl hE' (by omega)

/-- one field of one entry is written -/
theorem book_set {w w1 : World} {base p g cap k j : Nat} {l : List (Sil × Value)} {s s' : Sil} {mv u : Value} (h : BookAt w base p l) (hb : Below w.heap.size w w1) (hblk : Blk w p 77 #[.slice (some ⟨g, 0, none⟩) l.length cap]) (hg : base ≤ g)
    (hown : w.ownsRow base 82 9 (.slice (some ⟨g, 0, none⟩) l.length cap) l.length (rowCells l)) (hk : l[k]? = some (s, mv)) (hms : s'.ms = s.ms) (hr : (rowCells l).set (k * 9 + j) u = rowCells (l.set k (s', mv))) :
    BookAt (w1.setCell ⟨g, k * 9 + j, none⟩ u) base p (l.set k (s', mv)) ∧ (Fr base [77, 82] w (w1.setCell ⟨g, k * 9 + j, none⟩ u) ∧ FF p w (w1.setCell ⟨g, k * 9 + j, none⟩ u)) := by
  have hown1 := own_below hown hb
  have f : Fr base [82] w1 (w1.setCell ⟨g, k * 9 + j, none⟩ u) := Fr.setAt (Fr.refl _ _ _) (own_ty hown1 g rfl).2 (by decide) hg _ _
  refine ⟨⟨h.1, _, (hblk.below hb).keep f (by decide), ?_, ?_⟩, ⟨(Fr.of_below hb).trans (f.more (by simp)), FF.after hblk.ty.lt hb (FF.set u (rowOf_blk (hblk.below hb)) (ne_of_ty (own_ty hown1 g rfl).2 (hblk.below hb).ty (by decide)))⟩⟩
  · have := (hown1.stored (k * 9 + j) u).1
    rw [hr] at this
    rw [List.length_set]
    exact this
  · obtain ⟨_, _, _, _, hok⟩ := h
    intro x hx
    rcases List.mem_or_eq_of_mem_set hx with hx | hx
    · exact (hok.below hb).keep f (by decide) x hx
    · subst hx
      have := (hok.below hb).keep f (by decide) (s, mv) (List.mem_of_getElem? hk)
      simp only [hms] at this ⊢
      exact this

set_option maxHeartbeats 1000000 in
theorem extend_bad (p base : Nat) (l : List (Sil × Value)) (id tick til : Int) (pe : ByteArray) (w : World) (h : BookAt w base p l) (hl : l.length ≤ 10000) (h1 : -9223372036854775808 ≤ id) (hE : ¬ findE (l.map Prod.fst) id pe = 0) :
    Calls Try.prog 23 #[.pointer (some ⟨p, 0, none⟩), .int .i64 id, .string pe, .int .i64 tick, .int .i64 til] w (RetBook w base p (.int .i64 (extendM (l.map Prod.fst) id pe tick til).1) (extendM (l.map Prod.fst) id pe tick til).2) := by
  have E : Hid (extendM (l.map Prod.fst) id pe tick til = (findE (l.map Prod.fst) id pe, l.map Prod.fst)) := if_pos hE
  have hE' : (findE (l.map Prod.fst) id pe != 0) = true := by simpa using hE
  obtain ⟨g, cap, hrow⟩ := h.row
  have HF := Lib.hid (find_any p base g cap l id pe w h hl (fun a b => (hrow (by omega)).1.one) h1)
  have HB := Lib.hid h
  have HE := Lib.hid hE
  clear h hrow hE
  generalize findE (l.map Prod.fst) id pe = fe at *
  go_enter Try.func23, Try.ntmps23
  go_wp2_with (go_at_call 44; refine HF.out.mono ?_; rintro e w1 ⟨he, hb1⟩; rw [if_neg HE.out] at he; subst he; have HB1 := Lib.hid hb1; clear hb1)
  go_ret
  rw [E.out]
  exact ⟨rfl, l, HB.out.below HB1.out, rfl, ⟨Fr.of_below HB1.out, FF.of_below (HB.out.ty.lt) HB1.out⟩⟩

set_option maxHeartbeats 1000000 in
theorem extend_good (p base : Nat) (l : List (Sil × Value)) (k : Nat) (s : Sil) (mv : Value) (tick til : Int) (pe : ByteArray) (w : World) (h : BookAt w base p l) (hl : l.length ≤ 10000) (hk : l[k]? = some (s, mv)) (hE : findE (l.map Prod.fst) ((k : Int) + 1) pe = 0)
    (ht : 0 ≤ tick) (ht2 : tick ≤ 4611686018427387904) (hu1 : -4611686018427387904 ≤ til) (hu2 : til ≤ 4611686018427387904) :
    Calls Try.prog 23 #[.pointer (some ⟨p, 0, none⟩), .int .i64 ((k : Int) + 1), .string pe, .int .i64 tick, .int .i64 til] w (RetBook w base p (.int .i64 (extendM (l.map Prod.fst) ((k : Int) + 1) pe tick til).1) (extendM (l.map Prod.fst) ((k : Int) + 1) pe tick til).2) := by
  have hkl : k < l.length := (List.getElem?_eq_some_iff.1 hk).1
  have E0 : extendM (l.map Prod.fst) ((k : Int) + 1) pe tick til = if livesB s.fr s.un tick = false then (20, l.map Prod.fst) else if til < s.un ∨ 1000 < til - tick ∨ 1048576 < til then (5, l.map Prod.fst) else (0, (l.map Prod.fst).set k { s with un := til }) := by
    unfold extendM
    rw [if_neg (by simp [hE]), show ((k : Int) + 1 - 1).toNat = k by omega]
    simp [hk]
  have E := Lib.hid E0
  obtain ⟨g, cap, hrow⟩ := h.row
  obtain ⟨hblk, hg, hown⟩ := hrow (by omega)
  have HF := Lib.hid (find_any p base g cap l ((k : Int) + 1) pe w h hl (fun a b => hblk.one) (by omega))
  have hA : At9 w g (k * 9) s mv := by
    have := row_at (w := w) (b := g) (off := 0) hk (fun j u hu => by
      have hj : j < l.length * 9 := by rw [← rowCells_len]; exact (List.getElem?_eq_some_iff.1 hu).1
      rw [Nat.zero_add, hown.cellAt j hj, hu])
    simpa using this
  obtain ⟨c0, c1, c2, c3, c4, c5, c6, c7, c8⟩ := hA
  have hfz := hown.frozenAt
  have hgl : g < w.heap.size := (own_ty hown g rfl).2.lt
  have hmx := (h.form).choose_spec.choose_spec.2.2.2.2.2 (s, mv) (List.mem_of_getElem? hk)
  obtain ⟨A1, cp1, hmv⟩ := hmx.1.form
  simp only at hmv
  subst hmv
  have HB := Lib.hid h
  have HK := Lib.hid hk
  have HOWN := Lib.hid (And.intro hblk (And.intro hg hown))
  have HE := Lib.hid hE
  clear h hrow hE hblk hg hown hk hmx E0
  obtain ⟨i, ms, ow, se, cl, fr, un, cp, hd⟩ := s
  simp only at c0 c1 c2 c3 c4 c5 c6 c7 c8
  by_cases hlv : livesB fr un tick = true
  · by_cases hr : til < un ∨ 1000 < til - tick ∨ 1048576 < til
    · have E1 : Hid (extendM (l.map Prod.fst) ((k : Int) + 1) pe tick til = (5, l.map Prod.fst)) := by rw [Hid, E.out, if_neg (by simp [hlv]), if_pos hr]
      go_enter Try.func23, Try.ntmps23
      go_wp2_with (first | (go_at_call 44; refine HF.out.mono ?_; rintro e w1 ⟨he, hb1⟩; rw [if_pos HE.out, show ((k : Int) + 1 - 1).toNat = k by omega] at he; subst he; obtain ⟨hc1, hf1⟩ := bcell hb1; have hz1 := hb1.size; have hgl1 : g < w1.heap.size := Nat.lt_of_lt_of_le hgl hz1; have HB1 := Lib.hid hb1; clear hb1) | (go_at_call 35; refine (lives_any _ _ _ _ _ _ _ _ _ _ _ _ _).mono ?_; rintro e w2 ⟨rfl, hb2⟩; obtain ⟨hc2, hf2⟩ := bcell hb2; have HB2 : Hid (Below w.heap.size w w2) := HB1.out.trans (hb2.mono HB1.out.size); clear hb2))
      all_goals
        go_ret
        rw [E1.out]
        exact ⟨rfl, l, HB.out.below HB2.out, rfl, ⟨Fr.of_below HB2.out, FF.of_below (HB.out.ty.lt) HB2.out⟩⟩
    · have E1 : Hid (extendM (l.map Prod.fst) ((k : Int) + 1) pe tick til = (0, (l.map Prod.fst).set k ⟨i, ms, ow, se, cl, fr, til, cp, hd⟩)) := by rw [Hid, E.out, if_neg (by simp [hlv]), if_neg hr]
      have hr1 : un ≤ til := by omega
      have hr2 : til - tick ≤ 1000 := by omega
      have hr3 : til ≤ 1048576 := by omega
      clear hr
      go_enter Try.func23, Try.ntmps23
      go_wp2_with (first | (go_at_call 44; refine HF.out.mono ?_; rintro e w1 ⟨he, hb1⟩; rw [if_pos HE.out, show ((k : Int) + 1 - 1).toNat = k by omega] at he; subst he; obtain ⟨hc1, hf1⟩ := bcell hb1; have hz1 := hb1.size; have hgl1 : g < w1.heap.size := Nat.lt_of_lt_of_le hgl hz1; have HB1 := Lib.hid hb1; clear hb1) | (go_at_call 35; refine (lives_any _ _ _ _ _ _ _ _ _ _ _ _ _).mono ?_; rintro e w2 ⟨rfl, hb2⟩; obtain ⟨hc2, hf2⟩ := bcell hb2; have HB2 : Hid (Below w.heap.size w w2) := HB1.out.trans (hb2.mono HB1.out.size); clear hb2))
      go_ret
      rw [E1.out]
      have hset := book_set (s' := ⟨i, ms, ow, se, cl, fr, til, cp, hd⟩) HB.out HB2.out HOWN.out.1 HOWN.out.2.1 HOWN.out.2.2 HK.out rfl (row_until l k _ _ til HK.out)
      exact ⟨rfl, _, hset.1, map_set _ _ _ _, hset.2⟩
  · have hlv' : livesB fr un tick = false := by simpa using hlv
    clear hlv
    have E1 : Hid (extendM (l.map Prod.fst) ((k : Int) + 1) pe tick til = (20, l.map Prod.fst)) := by rw [Hid, E.out, if_pos hlv']
    go_enter Try.func23, Try.ntmps23
    go_wp2_with (first | (go_at_call 44; refine HF.out.mono ?_; rintro e w1 ⟨he, hb1⟩; rw [if_pos HE.out, show ((k : Int) + 1 - 1).toNat = k by omega] at he; subst he; obtain ⟨hc1, hf1⟩ := bcell hb1; have hz1 := hb1.size; have hgl1 : g < w1.heap.size := Nat.lt_of_lt_of_le hgl hz1; have HB1 := Lib.hid hb1; clear hb1) | (go_at_call 35; refine (lives_any _ _ _ _ _ _ _ _ _ _ _ _ _).mono ?_; rintro e w2 ⟨rfl, hb2⟩; obtain ⟨hc2, hf2⟩ := bcell hb2; have HB2 : Hid (Below w.heap.size w w2) := HB1.out.trans (hb2.mono HB1.out.size); clear hb2))
    go_ret
    rw [E1.out]
    exact ⟨rfl, l, HB.out.below HB2.out, rfl, ⟨Fr.of_below HB2.out, FF.of_below (HB.out.ty.lt) HB2.out⟩⟩

theorem extend_any (p base : Nat) (l : List (Sil × Value)) (id tick til : Int) (pe : ByteArray) (w : World) (h : BookAt w base p l) (hl : l.length ≤ 10000) (h1 : -9223372036854775808 ≤ id)
    (ht : 0 ≤ tick) (ht2 : tick ≤ 4611686018427387904) (hu1 : -4611686018427387904 ≤ til) (hu2 : til ≤ 4611686018427387904) :
    Calls Try.prog 23 #[.pointer (some ⟨p, 0, none⟩), .int .i64 id, .string pe, .int .i64 tick, .int .i64 til] w (RetBook w base p (.int .i64 (extendM (l.map Prod.fst) id pe tick til).1) (extendM (l.map Prod.fst) id pe tick til).2) := by
  by_cases hE : findE (l.map Prod.fst) id pe = 0
  · obtain ⟨k, s, mv, rfl, hk⟩ := find_zero hE
    exact extend_good p base l k s mv tick til pe w h hl hk hE ht ht2 hu1 hu2
  · exact extend_bad p base l id tick til pe w h hl h1 hE

set_option maxHeartbeats 1000000 in
theorem end_bad (p base : Nat) (l : List (Sil × Value)) (id tick : Int) (pe : ByteArray) (w : World) (h : BookAt w base p l) (hl : l.length ≤ 10000) (h1 : -9223372036854775808 ≤ id) (hE : ¬ findE (l.map Prod.fst) id pe = 0) :
    Calls Try.prog 28 #[.pointer (some ⟨p, 0, none⟩), .int .i64 id, .string pe, .int .i64 tick] w (RetBook w base p (.int .i64 (endM (l.map Prod.fst) id pe tick).1) (endM (l.map Prod.fst) id pe tick).2) := by
  have E : Hid (endM (l.map Prod.fst) id pe tick = (findE (l.map Prod.fst) id pe, l.map Prod.fst)) := if_pos hE
  have hE' : (findE (l.map Prod.fst) id pe != 0) = true := by simpa using hE
  obtain ⟨g, cap, hrow⟩ := h.row
  have HF := Lib.hid (find_any p base g cap l id pe w h hl (fun a b => (hrow (by omega)).1.one) h1)
  have HB := Lib.hid h
  have HE := Lib.hid hE
  clear h hrow hE
  generalize findE (l.map Prod.fst) id pe = fe at *
  go_enter Try.func28, Try.ntmps28
  go_wp2_with (go_at_call 44; refine HF.out.mono ?_; rintro e w1 ⟨he, hb1⟩; rw [if_neg HE.out] at he; subst he; have HB1 := Lib.hid hb1; clear hb1)
  go_ret
  rw [E.out]
  exact ⟨rfl, l, HB.out.below HB1.out, rfl, ⟨Fr.of_below HB1.out, FF.of_below (HB.out.ty.lt) HB1.out⟩⟩

set_option maxHeartbeats 1000000 in
theorem end_good (p base : Nat) (l : List (Sil × Value)) (k : Nat) (s : Sil) (mv : Value) (tick : Int) (pe : ByteArray) (w : World) (h : BookAt w base p l) (hl : l.length ≤ 10000) (hk : l[k]? = some (s, mv)) (hE : findE (l.map Prod.fst) ((k : Int) + 1) pe = 0) :
    Calls Try.prog 28 #[.pointer (some ⟨p, 0, none⟩), .int .i64 ((k : Int) + 1), .string pe, .int .i64 tick] w (RetBook w base p (.int .i64 (endM (l.map Prod.fst) ((k : Int) + 1) pe tick).1) (endM (l.map Prod.fst) ((k : Int) + 1) pe tick).2) := by
  have hkl : k < l.length := (List.getElem?_eq_some_iff.1 hk).1
  have E0 : endM (l.map Prod.fst) ((k : Int) + 1) pe tick = if openB s.fr s.un tick = false then (20, l.map Prod.fst) else (0, (l.map Prod.fst).set k { s with un := max tick s.fr }) := by
    unfold endM
    rw [if_neg (by simp [hE]), show ((k : Int) + 1 - 1).toNat = k by omega]
    simp [hk]
  have E := Lib.hid E0
  obtain ⟨g, cap, hrow⟩ := h.row
  obtain ⟨hblk, hg, hown⟩ := hrow (by omega)
  have HF := Lib.hid (find_any p base g cap l ((k : Int) + 1) pe w h hl (fun a b => hblk.one) (by omega))
  have hA : At9 w g (k * 9) s mv := by
    have := row_at (w := w) (b := g) (off := 0) hk (fun j u hu => by
      have hj : j < l.length * 9 := by rw [← rowCells_len]; exact (List.getElem?_eq_some_iff.1 hu).1
      rw [Nat.zero_add, hown.cellAt j hj, hu])
    simpa using this
  obtain ⟨c0, c1, c2, c3, c4, c5, c6, c7, c8⟩ := hA
  have hfz := hown.frozenAt
  have hgl : g < w.heap.size := (own_ty hown g rfl).2.lt
  have hmx := (h.form).choose_spec.choose_spec.2.2.2.2.2 (s, mv) (List.mem_of_getElem? hk)
  obtain ⟨A1, cp1, hmv⟩ := hmx.1.form
  simp only at hmv
  subst hmv
  have HB := Lib.hid h
  have HK := Lib.hid hk
  have HOWN := Lib.hid (And.intro hblk (And.intro hg hown))
  have HE := Lib.hid hE
  clear h hrow hE hblk hg hown hk hmx E0
  obtain ⟨i, ms, ow, se, cl, fr, un, cp, hd⟩ := s
  simp only at c0 c1 c2 c3 c4 c5 c6 c7 c8
  by_cases hlv : openB fr un tick = true
  · rcases Int.lt_or_le tick fr with hc | hc
    · have E1 : Hid (endM (l.map Prod.fst) ((k : Int) + 1) pe tick = (0, (l.map Prod.fst).set k ⟨i, ms, ow, se, cl, fr, fr, cp, hd⟩)) := by rw [Hid, E.out, if_neg (by simp [hlv])]; simp only; rw [show max tick fr = fr by omega]
      go_enter Try.func28, Try.ntmps28
      go_wp2_with (first | (go_at_call 44; refine HF.out.mono ?_; rintro e w1 ⟨he, hb1⟩; rw [if_pos HE.out, show ((k : Int) + 1 - 1).toNat = k by omega] at he; subst he; obtain ⟨hc1, hf1⟩ := bcell hb1; have hz1 := hb1.size; have hgl1 : g < w1.heap.size := Nat.lt_of_lt_of_le hgl hz1; have HB1 := Lib.hid hb1; clear hb1) | (go_at_call 41; refine (open_any _ _ _ _ _ _ _ _ _ _ _ _ _).mono ?_; rintro e w2 ⟨rfl, hb2⟩; obtain ⟨hc2, hf2⟩ := bcell hb2; have HB2 : Hid (Below w.heap.size w w2) := HB1.out.trans (hb2.mono HB1.out.size); clear hb2))
      go_ret
      rw [E1.out]
      have hset := book_set (s' := ⟨i, ms, ow, se, cl, fr, fr, cp, hd⟩) HB.out HB2.out HOWN.out.1 HOWN.out.2.1 HOWN.out.2.2 HK.out rfl (row_until l k _ _ fr HK.out)
      exact ⟨rfl, _, hset.1, map_set _ _ _ _, hset.2⟩
    · have E1 : Hid (endM (l.map Prod.fst) ((k : Int) + 1) pe tick = (0, (l.map Prod.fst).set k ⟨i, ms, ow, se, cl, fr, tick, cp, hd⟩)) := by rw [Hid, E.out, if_neg (by simp [hlv])]; simp only; rw [show max tick fr = tick by omega]
      go_enter Try.func28, Try.ntmps28
      go_wp2_with (first | (go_at_call 44; refine HF.out.mono ?_; rintro e w1 ⟨he, hb1⟩; rw [if_pos HE.out, show ((k : Int) + 1 - 1).toNat = k by omega] at he; subst he; obtain ⟨hc1, hf1⟩ := bcell hb1; have hz1 := hb1.size; have hgl1 : g < w1.heap.size := Nat.lt_of_lt_of_le hgl hz1; have HB1 := Lib.hid hb1; clear hb1) | (go_at_call 41; refine (open_any _ _ _ _ _ _ _ _ _ _ _ _ _).mono ?_; rintro e w2 ⟨rfl, hb2⟩; obtain ⟨hc2, hf2⟩ := bcell hb2; have HB2 : Hid (Below w.heap.size w w2) := HB1.out.trans (hb2.mono HB1.out.size); clear hb2))
      go_ret
      rw [E1.out]
      have hset := book_set (s' := ⟨i, ms, ow, se, cl, fr, tick, cp, hd⟩) HB.out HB2.out HOWN.out.1 HOWN.out.2.1 HOWN.out.2.2 HK.out rfl (row_until l k _ _ tick HK.out)
      exact ⟨rfl, _, hset.1, map_set _ _ _ _, hset.2⟩
  · have hlv' : openB fr un tick = false := by simpa using hlv
    clear hlv
    have E1 : Hid (endM (l.map Prod.fst) ((k : Int) + 1) pe tick = (20, l.map Prod.fst)) := by rw [Hid, E.out, if_pos hlv']
    go_enter Try.func28, Try.ntmps28
    go_wp2_with (first | (go_at_call 44; refine HF.out.mono ?_; rintro e w1 ⟨he, hb1⟩; rw [if_pos HE.out, show ((k : Int) + 1 - 1).toNat = k by omega] at he; subst he; obtain ⟨hc1, hf1⟩ := bcell hb1; have hz1 := hb1.size; have hgl1 : g < w1.heap.size := Nat.lt_of_lt_of_le hgl hz1; have HB1 := Lib.hid hb1; clear hb1) | (go_at_call 41; refine (open_any _ _ _ _ _ _ _ _ _ _ _ _ _).mono ?_; rintro e w2 ⟨rfl, hb2⟩; obtain ⟨hc2, hf2⟩ := bcell hb2; have HB2 : Hid (Below w.heap.size w w2) := HB1.out.trans (hb2.mono HB1.out.size); clear hb2))
    go_ret
    rw [E1.out]
    exact ⟨rfl, l, HB.out.below HB2.out, rfl, ⟨Fr.of_below HB2.out, FF.of_below (HB.out.ty.lt) HB2.out⟩⟩

theorem end_any (p base : Nat) (l : List (Sil × Value)) (id tick : Int) (pe : ByteArray) (w : World) (h : BookAt w base p l) (hl : l.length ≤ 10000) (h1 : -9223372036854775808 ≤ id) :
    Calls Try.prog 28 #[.pointer (some ⟨p, 0, none⟩), .int .i64 id, .string pe, .int .i64 tick] w (RetBook w base p (.int .i64 (endM (l.map Prod.fst) id pe tick).1) (endM (l.map Prod.fst) id pe tick).2) := by
  by_cases hE : findE (l.map Prod.fst) id pe = 0
  · obtain ⟨k, s, mv, rfl, hk⟩ := find_zero hE
    exact end_good p base l k s mv tick pe w h hl hk hE
  · exact end_bad p base l id tick pe w h hl h1 hE

set_option maxHeartbeats 2000000 in
theorem hide_any (p base : Nat) (l : List (Sil × Value)) (kd ve st sn : Int) (ru to_ : ByteArray) (A' : Option Addr) (n' c' : Nat) (ls : List Lab) (cls tick : Int) (w : World) (h : BookAt w base p l) (hbase : base ≤ w.heap.size) (hl : l.length ≤ 10000) (hla : Labs w base (.slice A' n' c') ls) (hfit : ∀ s ∈ l.map Prod.fst, CapFit s) :
    Calls Try.prog 24 #[.pointer (some ⟨p, 0, none⟩), .agg #[.int .i64 kd, .string ru, .int .i64 ve, .slice A' n' c', .int .i64 st, .int .i64 sn, .string to_], .int .i64 cls, .int .i64 tick] w
      (RetBook w base p (.tuple #[.int .i64 (hideM (l.map Prod.fst) ls cls tick).1.1, .bool (hideM (l.map Prod.fst) ls cls tick).1.2]) (hideM (l.map Prod.fst) ls cls tick).2) := by
  obtain ⟨A0, c0, hbc, hbf, hp, hown0, hss⟩ := h.form
  obtain ⟨g, cap, hrow⟩ := h.row
  have HB := Lib.hid h
  have HS := Lib.hid hss
  have HLA := Lib.hid hla
  have HFIT := Lib.hid hfit
  have HROW := Lib.hid hrow
  clear h hss hown0 hla hfit hrow
  go_enter Try.func24, Try.ntmps24
  go_wp2
  go_loopw [17] (fun i wr => HideRel w l.length (l.map Prod.fst) ls cls tick #[.int .i64 kd, .string ru, .int .i64 ve, .slice A' n' c', .int .i64 st, .int .i64 sn, .string to_] i wr) (fun i _ => l.length - (intOf i).toNat)
  case atStart => exact ⟨0, Nat.zero_le _, rfl, bel1 _ _, Blk.new _ _ _, fun j x _ h => absurd h (by omega)⟩
  case round =>
    obtain ⟨k, hk, rfl, hbw, hpg, hno⟩ := hrel
    have hsz := hbw.size
    by_cases hlt : k < l.length
    · obtain ⟨x, hx⟩ : ∃ x, l[k]? = some x := ⟨l[k]'hlt, List.getElem?_eq_getElem _⟩
      obtain ⟨s, mv⟩ := x
      obtain ⟨hblk, hg, hown⟩ := HROW.out (by omega)
      obtain ⟨b, off, hA, hb, ⟨d0, d1, d2, d3, d4, d5, d6, d7, d8⟩, hmx, hmo⟩ := (HS.out.below hbw).at_ k (s, mv) hx
      obtain rfl : A0 = some ⟨g, 0, none⟩ := by have := hblk.one; rw [hbc] at this; simp at this; exact this.1
      simp only [Option.some.injEq, Addr.mk.injEq, and_true] at hA
      obtain ⟨rfl, rfl⟩ := hA
      obtain ⟨A1, cp1, hmv⟩ := hmx.form
      simp only at hmv
      subst hmv
      have hcf := HFIT.out s (List.mem_map.2 ⟨_, List.mem_of_getElem? hx, rfl⟩)
      obtain ⟨e0, e1, e2, e3, e4, e5, e6⟩ := hpg.seven
      have hbp := bat hbw hp hbc
      have hfz := (own_below hown hbw).frozenAt
      have hpl : w.heap.size < wr.heap.size := hpg.ty.lt
      have HX := Lib.hid hx
      have HXs : Hid ((l.map Prod.fst)[k]? = some s) := by rw [Hid, List.getElem?_map, hx]; rfl
      have HM := Lib.hid hmx
      have HOWN := Lib.hid (And.intro hblk (And.intro hg hown))
      have HR := Lib.hid (And.intro hbw (And.intro hpg hno))
      have HLr := Lib.hid (HLA.out.below hbw)
      clear hx hmx hmo hblk hg hown hbw hpg hno
      obtain ⟨hcf1, hcf2⟩ := hcf
      obtain ⟨i, ms, ow, se, cl, fr, un, cp, hd⟩ := s
      simp only [Nat.zero_add] at d0 d1 d2 d3 d4 d5 d6 d7 d8 hcf1 hcf2
      by_cases hq : coversB cl fr un cp hd ms ls cls tick = true
      · have hdc : hd < cp := by simp [coversB] at hq; omega
        have HN : Hid (hideM (l.map Prod.fst) ls cls tick = ((i, true), (l.map Prod.fst).set k ⟨i, ms, ow, se, cl, fr, un, cp, hd + 1⟩)) := hideM_yes HXs.out hq HR.out.2.2
        go_wp2
        go_region_held3 (fun w' => w'.cell? ⟨g, k * 9, none⟩ = some (.int .i64 i) ∧ w'.cell? ⟨g, k * 9 + 1, none⟩ = some (.slice A1 ms.length cp1) ∧ w'.cell? ⟨g, k * 9 + 2, none⟩ = some (.string ow) ∧ w'.cell? ⟨g, k * 9 + 3, none⟩ = some (.string se) ∧ w'.cell? ⟨g, k * 9 + 4, none⟩ = some (.int .i64 cl) ∧ w'.cell? ⟨g, k * 9 + 5, none⟩ = some (.int .i64 fr) ∧ w'.cell? ⟨g, k * 9 + 6, none⟩ = some (.int .i64 un) ∧ w'.cell? ⟨g, k * 9 + 7, none⟩ = some (.int .i64 cp) ∧ w'.cell? ⟨g, k * 9 + 8, none⟩ = some (.int .i64 hd) ∧
            w'.cell? ⟨w.heap.size, 0, none⟩ = some (.int .i64 kd) ∧ w'.cell? ⟨w.heap.size, 1, none⟩ = some (.string ru) ∧ w'.cell? ⟨w.heap.size, 2, none⟩ = some (.int .i64 ve) ∧ w'.cell? ⟨w.heap.size, 3, none⟩ = some (.slice A' n' c') ∧ w'.cell? ⟨w.heap.size, 4, none⟩ = some (.int .i64 st) ∧ w'.cell? ⟨w.heap.size, 5, none⟩ = some (.int .i64 sn) ∧ w'.cell? ⟨w.heap.size, 6, none⟩ = some (.string to_))
          (first | go_keep | exact ⟨bat hb1 hb d0, bat hb1 hb d1, bat hb1 hb d2, bat hb1 hb d3, bat hb1 hb d4, bat hb1 hb d5, bat hb1 hb d6, bat hb1 hb d7, bat hb1 hb d8, bat hb1 hpl e0, bat hb1 hpl e1, bat hb1 hpl e2, bat hb1 hpl e3, bat hb1 hpl e4, bat hb1 hpl e5, bat hb1 hpl e6⟩)
          (first | (go_at_call 17; refine (covers_any _ _ _ _ _ _ _ _ _ _ _ _ _ _ _ _ _ _ _ _ base ms ls _ _ _ (by exact HM.out) (by exact HLr.out)).mono ?_; rintro e w1 ⟨rfl, hb1⟩))
        have HB1 : Hid (Below w.heap.size w w1 ∧ Blk w1 w.heap.size 36 #[.int .i64 kd, .string ru, .int .i64 ve, .slice A' n' c', .int .i64 st, .int .i64 sn, .string to_]) := ⟨HR.out.1.drew.trans (hb1.mono hsz), Blk.below (w := wr.drew) HR.out.2.1 hb1⟩
        have f0 := bat hb1 hb d0
        have f8 := bat hb1 hb d8
        have ff : ∀ o, w1.frozen? ⟨g, o, none⟩ = false := fun o => (hb1.frozen (p := ⟨g, o, none⟩) hb).trans (hfz o)
        clear hb1 d0 d1 d2 d3 d4 d5 d6 d7 d8 e0 e1 e2 e3 e4 e5 e6 hfz
        go_wp2
        go_ret2
        rw [HN.out]
        have hset := book_set (s' := ⟨i, ms, ow, se, cl, fr, un, cp, hd + 1⟩) HB.out HB1.out.1 HOWN.out.1 HOWN.out.2.1 HOWN.out.2.2 HX.out rfl (row_hidden l k _ _ (hd + 1) HX.out)
        exact ⟨rfl, _, hset.1, map_set _ _ _ _, hset.2⟩
      · have hq' : coversB cl fr un cp hd ms ls cls tick = false := by simpa using hq
        clear hq
        go_wp2
        go_region_held3 (fun w' => w'.cell? ⟨g, k * 9, none⟩ = some (.int .i64 i) ∧ w'.cell? ⟨g, k * 9 + 1, none⟩ = some (.slice A1 ms.length cp1) ∧ w'.cell? ⟨g, k * 9 + 2, none⟩ = some (.string ow) ∧ w'.cell? ⟨g, k * 9 + 3, none⟩ = some (.string se) ∧ w'.cell? ⟨g, k * 9 + 4, none⟩ = some (.int .i64 cl) ∧ w'.cell? ⟨g, k * 9 + 5, none⟩ = some (.int .i64 fr) ∧ w'.cell? ⟨g, k * 9 + 6, none⟩ = some (.int .i64 un) ∧ w'.cell? ⟨g, k * 9 + 7, none⟩ = some (.int .i64 cp) ∧ w'.cell? ⟨g, k * 9 + 8, none⟩ = some (.int .i64 hd) ∧
            w'.cell? ⟨w.heap.size, 0, none⟩ = some (.int .i64 kd) ∧ w'.cell? ⟨w.heap.size, 1, none⟩ = some (.string ru) ∧ w'.cell? ⟨w.heap.size, 2, none⟩ = some (.int .i64 ve) ∧ w'.cell? ⟨w.heap.size, 3, none⟩ = some (.slice A' n' c') ∧ w'.cell? ⟨w.heap.size, 4, none⟩ = some (.int .i64 st) ∧ w'.cell? ⟨w.heap.size, 5, none⟩ = some (.int .i64 sn) ∧ w'.cell? ⟨w.heap.size, 6, none⟩ = some (.string to_))
          (first | go_keep | exact ⟨bat hb1 hb d0, bat hb1 hb d1, bat hb1 hb d2, bat hb1 hb d3, bat hb1 hb d4, bat hb1 hb d5, bat hb1 hb d6, bat hb1 hb d7, bat hb1 hb d8, bat hb1 hpl e0, bat hb1 hpl e1, bat hb1 hpl e2, bat hb1 hpl e3, bat hb1 hpl e4, bat hb1 hpl e5, bat hb1 hpl e6⟩)
          (first | (go_at_call 17; refine (covers_any _ _ _ _ _ _ _ _ _ _ _ _ _ _ _ _ _ _ _ _ base ms ls _ _ _ (by exact HM.out) (by exact HLr.out)).mono ?_; rintro e w1 ⟨rfl, hb1⟩))
        have HB1 : Hid (Below w.heap.size w w1 ∧ Blk w1 w.heap.size 36 #[.int .i64 kd, .string ru, .int .i64 ve, .slice A' n' c', .int .i64 st, .int .i64 sn, .string to_]) := ⟨HR.out.1.drew.trans (hb1.mono hsz), Blk.below (w := wr.drew) HR.out.2.1 hb1⟩
        have f0 := bat hb1 hb d0
        have f8 := bat hb1 hb d8
        have ff : ∀ o, w1.frozen? ⟨g, o, none⟩ = false := fun o => (hb1.frozen (p := ⟨g, o, none⟩) hb).trans (hfz o)
        clear hb1 d0 d1 d2 d3 d4 d5 d6 d7 d8 e0 e1 e2 e3 e4 e5 e6 hfz
        go_wp2
        go_roundw
        case rel => exact ⟨k + 1, by omega, by go_num, HB1.out.1, HB1.out.2, hide_next HXs.out hq' HR.out.2.2⟩
        case measure => simp [intOf]; omega
    · have HN : Hid (hideM (l.map Prod.fst) ls cls tick = ((0, false), l.map Prod.fst)) := hideM_no (fun j x hj => hno j x hj (by
        have := (List.getElem?_eq_some_iff.1 hj).1
        simp at this; omega))
      clear hno
      go_wp2
      go_ret2
      rw [HN.out]
      exact ⟨rfl, l, HB.out.below hbw, rfl, ⟨Fr.of_below hbw, FF.of_below (HB.out.ty.lt) hbw⟩⟩


theorem bopen_eq (p base : Nat) (l : List (Sil × Value)) (s : Sil) (A : Option Addr) (n c : Nat) (tick : Int) (w : World) (sl : List Sil) (r1 r2 : Int) (sl' : List Sil) (h : BookAt w base p l) (hbase : base ≤ w.heap.size) (hm : Mats w base (.slice A n c) s.ms) (hs : SilFit s) (hl : l.length ≤ 10000) (he : l.map Prod.fst = sl) (hM : openM sl s tick = ((r1, r2), sl')) :
    Calls Try.prog 20 #[.pointer (some ⟨p, 0, none⟩), .agg #[.int .i64 s.id, .slice A n c, .string s.ow, .string s.se, .int .i64 s.cl, .int .i64 s.fr, .int .i64 s.un, .int .i64 s.cp, .int .i64 s.hd], .int .i64 tick] w (RetBook w base p (.tuple #[.int .i64 r1, .int .i64 r2]) sl') := by
  have := bopen_any p base l s A n c tick w h hbase hm hs hl
  rw [he, hM] at this
  exact this
theorem hide_eq (p base : Nat) (l : List (Sil × Value)) (kd ve st sn : Int) (ru to_ : ByteArray) (A' : Option Addr) (n' c' : Nat) (ls : List Lab) (cls tick : Int) (w : World) (sl : List Sil) (r1 : Int) (r2 : Bool) (sl' : List Sil) (h : BookAt w base p l) (hbase : base ≤ w.heap.size) (hl : l.length ≤ 10000) (hla : Labs w base (.slice A' n' c') ls) (hfit : ∀ s ∈ sl, CapFit s) (he : l.map Prod.fst = sl) (hM : hideM sl ls cls tick = ((r1, r2), sl')) :
    Calls Try.prog 24 #[.pointer (some ⟨p, 0, none⟩), .agg #[.int .i64 kd, .string ru, .int .i64 ve, .slice A' n' c', .int .i64 st, .int .i64 sn, .string to_], .int .i64 cls, .int .i64 tick] w (RetBook w base p (.tuple #[.int .i64 r1, .bool r2]) sl') := by
  have := hide_any p base l kd ve st sn ru to_ A' n' c' ls cls tick w h hbase hl hla (by rw [he]; exact hfit)
  rw [he, hM] at this
  exact this
theorem extend_eq (p base : Nat) (l : List (Sil × Value)) (id tick til : Int) (pe : ByteArray) (w : World) (sl : List Sil) (r : Int) (sl' : List Sil) (h : BookAt w base p l) (hl : l.length ≤ 10000) (h1 : -9223372036854775808 ≤ id)
    (ht : 0 ≤ tick) (ht2 : tick ≤ 4611686018427387904) (hu1 : -4611686018427387904 ≤ til) (hu2 : til ≤ 4611686018427387904) (he : l.map Prod.fst = sl) (hM : extendM sl id pe tick til = (r, sl')) :
    Calls Try.prog 23 #[.pointer (some ⟨p, 0, none⟩), .int .i64 id, .string pe, .int .i64 tick, .int .i64 til] w (RetBook w base p (.int .i64 r) sl') := by
  have := extend_any p base l id tick til pe w h hl h1 ht ht2 hu1 hu2
  rw [he, hM] at this
  exact this


theorem end_eq (p base : Nat) (l : List (Sil × Value)) (id tick : Int) (pe : ByteArray) (w : World) (sl : List Sil) (r : Int) (sl' : List Sil) (h : BookAt w base p l) (hl : l.length ≤ 10000) (h1 : -9223372036854775808 ≤ id)
    (he : l.map Prod.fst = sl) (hM : endM sl id pe tick = (r, sl')) :
    Calls Try.prog 28 #[.pointer (some ⟨p, 0, none⟩), .int .i64 id, .string pe, .int .i64 tick] w (RetBook w base p (.int .i64 r) sl') := by
  have := end_any p base l id tick pe w h hl h1
  rw [he, hM] at this
  exact this
end Go.Proofs.Ytoafpajibeejlaa.F
