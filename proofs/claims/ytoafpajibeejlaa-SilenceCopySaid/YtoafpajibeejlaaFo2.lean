/- Open of the reference's book, with footprints. -/
import Derived.Test.YtoafpajibeejlaaFo1
set_option linter.unusedVariables false
set_option linter.unusedSimpArgs false
namespace Go.Proofs.Ytoafpajibeejlaa.F
open Go.RowKit

def RRetBook (w : World) (base p : Nat) (v : Value) (sl : List Sil) (e : Ending) (w' : World) : Prop :=
  e = .returned v ∧ ∃ l, RBookAt w' base p l ∧ l.map Prod.fst = sl ∧ Fr base [60, 24] w w' ∧ FF p w w'
theorem rlt {w : World} {base p : Nat} {l : List (Sil × Value)} (h : RBookAt w base p l) : p < w.heap.size := by
  obtain ⟨_, sv, hh, _⟩ := h
  exact TyAt.lt ⟨_, _, hh⟩
set_option maxHeartbeats 2000000 in
theorem ropen_bad (p base : Nat) (l : List (Sil × Value)) (s : Sil) (A : Option Addr) (n c : Nat) (tick : Int) (w : World) (h : RBookAt w base p l) (hbase : base ≤ w.heap.size) (hm : Mats w base (.slice A n c) s.ms) (hs : SilFit s) (hl : l.length ≤ 10000)
    (hE : (checkE s.ms s.ow s.se s.cl s.fr s.un s.cp tick != 0) = true) :
    Calls Try.prog 33 #[.pointer (some ⟨p, 0, none⟩), .agg #[.int .i64 s.id, .slice A n c, .string s.ow, .string s.se, .int .i64 s.cl, .int .i64 s.fr, .int .i64 s.un, .int .i64 s.cp, .int .i64 s.hd], .int .i64 tick] w
      (RRetBook w base p (.tuple #[.int .i64 (openM (l.map Prod.fst) s tick).1.1, .int .i64 (openM (l.map Prod.fst) s tick).1.2]) (openM (l.map Prod.fst) s tick).2) := by
  have E0 : openM (l.map Prod.fst) s tick = ((0, checkE s.ms s.ow s.se s.cl s.fr s.un s.cp tick), l.map Prod.fst) := if_pos hE
  obtain ⟨id, ms, ow, se, cl, fr, un, cp, hd⟩ := s
  obtain ⟨hmo, hs1, hs2, hu⟩ := hs
  simp only at *
  have hn := hm.len.1
  have HB := Lib.hid h
  have HM := Lib.hid hm
  have HO := Lib.hid hmo
  have HE := Lib.hid hE
  clear h hm hmo hE
  by_cases ht : tick < 0 ∨ 1048576 < tick
  · have E : Hid (openM (l.map Prod.fst) ⟨id, ms, ow, se, cl, fr, un, cp, hd⟩ tick = ((0, 5), l.map Prod.fst)) := by rw [Hid, E0, checkE, if_pos ht]
    clear E0 hn
    rcases ht with ht | ht
    · go_enter Try.func33, Try.ntmps33
      go_wp2
      go_ret2
      rw [E.out]
      exact ⟨rfl, l, HB.out.below (bel1 _ _), rfl, ⟨Fr.of_below (bel1 _ _), FF.of_below (rlt HB.out) (bel1 _ _)⟩⟩
    · go_enter Try.func33, Try.ntmps33
      go_wp2
      go_ret2
      rw [E.out]
      exact ⟨rfl, l, HB.out.below (bel1 _ _), rfl, ⟨Fr.of_below (bel1 _ _), FF.of_below (rlt HB.out) (bel1 _ _)⟩⟩
  have ht1 : 0 ≤ tick := by omega
  have ht2 : tick ≤ 1048576 := by omega
  by_cases h8 : 8 < n
  · have E : Hid (openM (l.map Prod.fst) ⟨id, ms, ow, se, cl, fr, un, cp, hd⟩ tick = ((0, 4), l.map Prod.fst)) := by rw [Hid, E0, checkE, if_neg ht, if_pos (by omega)]
    clear E0 hn ht
    go_enter Try.func33, Try.ntmps33
    go_wp2
    go_ret2
    rw [E.out]
    exact ⟨rfl, l, HB.out.below (bel1 _ _), rfl, ⟨Fr.of_below (bel1 _ _), FF.of_below (rlt HB.out) (bel1 _ _)⟩⟩
  have h8' : n ≤ 8 := by omega
  by_cases hnm : namesB ms ow se = true
  · have E1 : Hid (checkE ms ow se cl fr un cp tick = numE cl fr un cp tick (soloB ow se)) := by rw [Hid, checkE, if_neg ht, if_neg (by omega), if_neg (by simp [hnm])]
    have E : Hid (openM (l.map Prod.fst) ⟨id, ms, ow, se, cl, fr, un, cp, hd⟩ tick = ((0, numE cl fr un cp tick (soloB ow se)), l.map Prod.fst)) := by rw [Hid, E0, E1.out]
    have HNZ : Hid (numE cl fr un cp tick (soloB ow se) ≠ 0) := Lib.hid (by have := HE.out; rw [E1.out] at this; simpa using this)
    clear E0 hn ht h8 E1
    by_cases hbad : (cl < 1 ∨ 3 < cl ∨ cp < 1 ∨ 100 < cp) ∨ (fr < tick ∨ un ≤ fr ∨ 1000 < un - fr ∨ 1048576 < un)
    · have EN : Hid (numE cl fr un cp tick (soloB ow se) = 5) := by
        unfold numE
        by_cases hx : cl < 1 ∨ 3 < cl ∨ cp < 1 ∨ 100 < cp
        · rw [Hid, if_pos hx]
        · rw [Hid, if_neg hx, if_pos (by omega)]
      go_enter Try.func33, Try.ntmps33
      go_wp2_with (go_at_call 51; refine (rnames_any _ _ _ _ _ _ _ _ _ _ _ ms base _ (by exact HM.out.below (bel1 _ _)) HO.out.2 hs1 hs2).mono ?_; rintro e w1 ⟨rfl, hb1⟩; have HB1 : Hid (Below w.heap.size w w1 ∧ Blk w1 w.heap.size 24 #[.int .i64 id, .slice A n c, .string ow, .string se, .int .i64 cl, .int .i64 fr, .int .i64 un, .int .i64 cp, .int .i64 hd]) := ⟨(bel1 _ _).trans (hb1.mono (by simp)), (Blk.new _ _ _).below hb1⟩; obtain ⟨d0, d1, d2, d3, d4, d5, d6, d7, d8⟩ := HB1.out.2.nine; clear hb1)
      all_goals first
        | (go_ret2; rw [E.out, EN.out]; exact ⟨rfl, l, HB.out.below HB1.out.1, rfl, ⟨Fr.of_below HB1.out.1, FF.of_below (rlt HB.out) HB1.out.1⟩⟩)
        | (exfalso; omega)
    · have hd3 : cl = 3 ∧ soloB ow se = true := by
        have := HNZ.out
        unfold numE at this
        rw [if_neg (by omega), if_neg (by omega)] at this
        by_cases hx : cl = 3 ∧ soloB ow se = true
        · exact hx
        · rw [if_neg hx] at this; exact absurd rfl this
      have EN : Hid (numE cl fr un cp tick (soloB ow se) = 16) := by
        unfold numE
        rw [Hid, if_neg (by omega), if_neg (by omega), if_pos hd3]
      obtain ⟨h3, hsolo⟩ := hd3
      have h3' : (cl == 3) = true := by simp [h3]
      have g01 : 1 ≤ cl := by omega
      have g02 : cl ≤ 3 := by omega
      clear h3
      have g1 : 1 ≤ cp := by omega
      have g2 : cp ≤ 100 := by omega
      have g3 : tick ≤ fr := by omega
      have g4 : fr < un := by omega
      have g5 : un - fr ≤ 1000 := by omega
      have g6 : un ≤ 1048576 := by omega
      clear hbad HNZ
      by_cases he : se.toList.isEmpty = true
      · clear hsolo
        go_enter Try.func33, Try.ntmps33
        go_wp2_with (go_at_call 51; refine (rnames_any _ _ _ _ _ _ _ _ _ _ _ ms base _ (by exact HM.out.below (bel1 _ _)) HO.out.2 hs1 hs2).mono ?_; rintro e w1 ⟨rfl, hb1⟩; have HB1 : Hid (Below w.heap.size w w1 ∧ Blk w1 w.heap.size 24 #[.int .i64 id, .slice A n c, .string ow, .string se, .int .i64 cl, .int .i64 fr, .int .i64 un, .int .i64 cp, .int .i64 hd]) := ⟨(bel1 _ _).trans (hb1.mono (by simp)), (Blk.new _ _ _).below hb1⟩; obtain ⟨d0, d1, d2, d3, d4, d5, d6, d7, d8⟩ := HB1.out.2.nine; clear hb1)
        go_ret2
        rw [E.out, EN.out]
        exact ⟨rfl, l, HB.out.below HB1.out.1, rfl, ⟨Fr.of_below HB1.out.1, FF.of_below (rlt HB.out) HB1.out.1⟩⟩
      · have he' : se.toList.isEmpty = false := by simpa using he
        have hq : (se.toList == ow.toList) = true := by rw [soloB, he'] at hsolo; exact hsolo
        clear hsolo he
        go_enter Try.func33, Try.ntmps33
        go_wp2_with (go_at_call 51; refine (rnames_any _ _ _ _ _ _ _ _ _ _ _ ms base _ (by exact HM.out.below (bel1 _ _)) HO.out.2 hs1 hs2).mono ?_; rintro e w1 ⟨rfl, hb1⟩; have HB1 : Hid (Below w.heap.size w w1 ∧ Blk w1 w.heap.size 24 #[.int .i64 id, .slice A n c, .string ow, .string se, .int .i64 cl, .int .i64 fr, .int .i64 un, .int .i64 cp, .int .i64 hd]) := ⟨(bel1 _ _).trans (hb1.mono (by simp)), (Blk.new _ _ _).below hb1⟩; obtain ⟨d0, d1, d2, d3, d4, d5, d6, d7, d8⟩ := HB1.out.2.nine; clear hb1)
        go_ret2
        rw [E.out, EN.out]
        exact ⟨rfl, l, HB.out.below HB1.out.1, rfl, ⟨Fr.of_below HB1.out.1, FF.of_below (rlt HB.out) HB1.out.1⟩⟩
  · have hnm' : namesB ms ow se = false := by simpa using hnm
    have E : Hid (openM (l.map Prod.fst) ⟨id, ms, ow, se, cl, fr, un, cp, hd⟩ tick = ((0, 8), l.map Prod.fst)) := by rw [Hid, E0, checkE, if_neg ht, if_neg (by omega), if_pos hnm']
    clear E0 hn ht h8 hnm
    go_enter Try.func33, Try.ntmps33
    go_wp2_with (go_at_call 51; refine (rnames_any _ _ _ _ _ _ _ _ _ _ _ ms base _ (by exact HM.out.below (bel1 _ _)) HO.out.2 hs1 hs2).mono ?_; rintro e w1 ⟨rfl, hb1⟩; have HB1 : Hid (Below w.heap.size w w1 ∧ Blk w1 w.heap.size 24 #[.int .i64 id, .slice A n c, .string ow, .string se, .int .i64 cl, .int .i64 fr, .int .i64 un, .int .i64 cp, .int .i64 hd]) := ⟨(bel1 _ _).trans (hb1.mono (by simp)), (Blk.new _ _ _).below hb1⟩; obtain ⟨d0, d1, d2, d3, d4, d5, d6, d7, d8⟩ := HB1.out.2.nine; clear hb1)
    go_ret2
    rw [E.out]
    exact ⟨rfl, l, HB.out.below HB1.out.1, rfl, ⟨Fr.of_below HB1.out.1, FF.of_below (rlt HB.out) HB1.out.1⟩⟩

theorem ropen_end {w W8 w9 : World} {base p g cap : Nat} {l : List (Sil × Value)} {s : Sil} {mv bv : Value} (h : RBookAt w base p l) (hW : Below w.heap.size w W8) (hm : Mats W8 base mv s.ms) (hms : MsOk s.ms)
    (f9 : Fr base [24] W8 w9) (b9 : Blk w9 p 60 #[bv]) (hown : w9.ownsRow base 24 9 (.slice (some ⟨g, 0, none⟩) (l.length + 1) cap) (l.length + 1) (rowCells l ++ silCells (s, mv))) (hff : FF p w (w9.setCell ⟨p, 0, none⟩ (.slice (some ⟨g, 0, none⟩) (l.length + 1) cap))) :
    RBookAt (w9.setCell ⟨p, 0, none⟩ (.slice (some ⟨g, 0, none⟩) (l.length + 1) cap)) base p (l ++ [(s, mv)]) ∧ (Fr base [60, 24] w (w9.setCell ⟨p, 0, none⟩ (.slice (some ⟨g, 0, none⟩) (l.length + 1) cap)) ∧ FF p w (w9.setCell ⟨p, 0, none⟩ (.slice (some ⟨g, 0, none⟩) (l.length + 1) cap))) := by
  have f10 : Fr base [60] w9 (w9.setCell ⟨p, 0, none⟩ (.slice (some ⟨g, 0, none⟩) (l.length + 1) cap)) := Fr.setAt (Fr.refl _ _ _) b9.ty (by decide) h.1 0 _
  refine ⟨⟨h.1, _, b9.set 0 _, ?_, ?_⟩, ?_⟩
  · rw [List.length_append, rowCells_snoc]; exact own_fr hown f10 (by decide)
  · obtain ⟨_, _, _, _, hok⟩ := h
    intro x hx
    rcases List.mem_append.1 hx with hx | hx
    · exact ((hok.below hW).keep f9 (by decide)).keep f10 (by decide) x hx
    · simp at hx; subst hx
      exact ⟨(hm.keep f9 (by decide)).keep f10 (by decide), hms⟩
  · exact ⟨((Fr.of_below hW).trans (f9.more (by simp))).trans (f10.more (by simp)), hff⟩

set_option maxRecDepth 100000 in
set_option maxHeartbeats 4000000 in
theorem ropen_ok1 (p base : Nat) (l : List (Sil × Value)) (s : Sil) (A : Option Addr) (n c : Nat) (tick : Int) (w : World) (h : RBookAt w base p l) (hbase : base ≤ w.heap.size) (hm : Mats w base (.slice A n c) s.ms) (hs : SilFit s) (hl : l.length ≤ 10000)
    (hE : (checkE s.ms s.ow s.se s.cl s.fr s.un s.cp tick != 0) = false) (h3 : (s.cl == 3) = false) :
    Calls Try.prog 33 #[.pointer (some ⟨p, 0, none⟩), .agg #[.int .i64 s.id, .slice A n c, .string s.ow, .string s.se, .int .i64 s.cl, .int .i64 s.fr, .int .i64 s.un, .int .i64 s.cp, .int .i64 s.hd], .int .i64 tick] w
      (RRetBook w base p (.tuple #[.int .i64 (openM (l.map Prod.fst) s tick).1.1, .int .i64 (openM (l.map Prod.fst) s tick).1.2]) (openM (l.map Prod.fst) s tick).2) := by
  have E0 : checkE s.ms s.ow s.se s.cl s.fr s.un s.cp tick = 0 := by simpa using hE
  obtain ⟨ht1, ht2, h8, hnm, hnum⟩ := checkE_zero E0
  obtain ⟨g01, g02, g1, g2, g3, g4, g5, g6, g7⟩ := numE_zero hnum
  obtain ⟨id, ms, ow, se, cl, fr, un, cp, hd⟩ := s
  obtain ⟨hmo, hs1, hs2, hu⟩ := hs
  simp only at *
  have h8' : n ≤ 8 := by rw [hm.len.1]; exact h8
  obtain ⟨A0, c0, hblk, hown, hss⟩ := h.form
  have hbc := hblk.one
  have hbf := hblk.frozen
  have hp := hblk.ty.lt
  have HBK0 := Lib.hid hblk
  have HOWN := Lib.hid hown
  have HS := Lib.hid hss
  have HB := Lib.hid h
  have HM := Lib.hid hm
  have HO := Lib.hid hmo
  have HE := Lib.hid hE
  clear h hm hmo hblk hown hss E0 hnum h8 hE
  clear g7
  have HE3 : Hid True := trivial
  go_enter Try.func33, Try.ntmps33
  go_wp2_with (go_at_call 51; refine (rnames_any _ _ _ _ _ _ _ _ _ _ _ ms base _ (by exact HM.out.below (bel1 _ _)) HO.out.2 hs1 hs2).mono ?_; rintro e w1 ⟨rfl, hb1⟩; have HB1 : Hid (Below w.heap.size w w1 ∧ Blk w1 w.heap.size 24 #[.int .i64 id, .slice A n c, .string ow, .string se, .int .i64 cl, .int .i64 fr, .int .i64 un, .int .i64 cp, .int .i64 hd]) := ⟨(bel1 _ _).trans (hb1.mono (by simp)), (Blk.new _ _ _).below hb1⟩; obtain ⟨d0, d1, d2, d3, d4, d5, d6, d7, d8⟩ := HB1.out.2.nine; clear hb1)
  have HR1 := Lib.hid (And.intro HB1.out.1 HB1.out.2)
  clear HB1 d0 d1 d2 d3 d4 d5 d6 d7 d8
  have b1 := bat HR1.out.1 hp hbc
  go_loopw [8, 9] (fun v i wr => CntRel w l.length (fun s => openB s.fr s.un tick) (l.map Prod.fst) #[.int .i64 id, .slice A n c, .string ow, .string se, .int .i64 cl, .int .i64 fr, .int .i64 un, .int .i64 cp, .int .i64 hd] v i wr) (fun _ i _ => l.length - (intOf i).toNat)
  case atStart => exact ⟨0, Nat.zero_le _, rfl, by simp, HR1.out.1, HR1.out.2⟩
  case round =>
    obtain ⟨k, hk, rfl, hcnt, hbw, hbl⟩ := hrel
    clear b1
    have b2 := bat hbw hp hbc
    have hsz := hbw.size
    have hpl : w.heap.size < wr.heap.size := hbl.ty.lt
    obtain ⟨d0, d1, d2, d3, d4, d5, d6, d7, d8⟩ := hbl.nine
    have HBW := Lib.hid (And.intro hbw hbl)
    by_cases hlt : k < l.length
    · obtain ⟨x, hx⟩ : ∃ x, l[k]? = some x := ⟨l[k]'hlt, List.getElem?_eq_getElem _⟩
      obtain ⟨b, off, rfl, hb, ⟨e0, e1, e2, e3, e4, e5, e6, e7, e8⟩, hmx, hmo⟩ := (HS.out.below hbw).at_ k x hx
      obtain ⟨s1, mv⟩ := x
      obtain ⟨A1, cp1, hmv⟩ := hmx.form
      simp only at hmv
      subst hmv
      have HXs : Hid ((l.map Prod.fst)[k]? = some s1) := by rw [Hid, List.getElem?_map, hx]; rfl
      clear hx hmx hmo hbw hbl d0 d1 d2 d3 d4 d5 d6 d7 d8
      obtain ⟨i1, ms1, ow1, se1, cl1, fr1, un1, cpp1, hd1⟩ := s1
      simp only at e0 e1 e2 e3 e4 e5 e6 e7 e8
      have hcl : (((l.map Prod.fst).take k).filter fun s => openB s.fr s.un tick).length ≤ k := Nat.le_trans (List.length_filter_le _ _) (by simp; omega)
      have HC := Lib.hid hcnt
      clear hcnt
      by_cases hq : openB fr1 un1 tick = true
      · have HN := Lib.hid (cnt_yes (p := fun s => openB s.fr s.un tick) HXs.out hq)
        generalize (((l.map Prod.fst).take k).filter fun s => openB s.fr s.un tick).length = cn at *
        obtain rfl := HC.out
        go_wp2_with (go_at_call 52; refine (ropen_any _ _ _ _ _ _ _ _ _ _ _ _ _).mono ?_; rintro e w2 ⟨rfl, hb2⟩; have HB2 := Lib.hid hb2; clear hb2)
        go_roundw
        case rel => exact ⟨k + 1, by omega, by go_num, by rw [HN.out]; go_num, HBW.out.1.trans (HB2.out.mono hsz), HBW.out.2.below HB2.out⟩
        case measure => simp [intOf]; omega
      · have hq' : openB fr1 un1 tick = false := by simpa using hq
        clear hq
        have HN := Lib.hid (cnt_no (p := fun s => openB s.fr s.un tick) HXs.out hq')
        generalize (((l.map Prod.fst).take k).filter fun s => openB s.fr s.un tick).length = cn at *
        obtain rfl := HC.out
        go_wp2_with (go_at_call 52; refine (ropen_any _ _ _ _ _ _ _ _ _ _ _ _ _).mono ?_; rintro e w2 ⟨rfl, hb2⟩; have HB2 := Lib.hid hb2; clear hb2)
        go_roundw
        case rel => exact ⟨k + 1, by omega, by go_num, by rw [HN.out], HBW.out.1.trans (HB2.out.mono hsz), HBW.out.2.below HB2.out⟩
        case measure => simp [intOf]; omega
    · have hcnt' : u8 = .int .i64 (((l.map Prod.fst).filter fun s => openB s.fr s.un tick).length : Nat) := by rw [hcnt, List.take_of_length_le (by simp; omega)]
      clear hcnt
      by_cases hc : 64 ≤ ((l.map Prod.fst).filter fun s => openB s.fr s.un tick).length
      · have E : Hid (openM (l.map Prod.fst) ⟨id, ms, ow, se, cl, fr, un, cp, hd⟩ tick = ((0, 4), l.map Prod.fst)) := by
          unfold openM
          rw [Hid, if_neg (by simp [HE.out]), if_pos hc]
        generalize ((l.map Prod.fst).filter fun s => openB s.fr s.un tick).length = cn at *
        subst hcnt'
        clear hbw hbl
        go_wp2
        go_ret2
        rw [E.out]
        exact ⟨rfl, l, HB.out.below HBW.out.1, rfl, ⟨Fr.of_below HBW.out.1, FF.of_below (rlt HB.out) HBW.out.1⟩⟩
      · have E : Hid (openM (l.map Prod.fst) ⟨id, ms, ow, se, cl, fr, un, cp, hd⟩ tick = (((l.length : Int) + 1, (0 : Int)), l.map Prod.fst ++ [⟨(l.length : Int) + 1, ms, ow, se, cl, fr, un, cp, 0⟩])) := by
          unfold openM
          rw [Hid, if_neg (by simp [HE.out]), if_neg hc]; simp
        generalize ((l.map Prod.fst).filter fun s => openB s.fr s.un tick).length = cn at *
        subst hcnt'
        have hc' : cn < 64 := by omega
        have hlf := hbl.frozen
        clear hbw hbl hc
        go_wp2
        have HW : Hid (Below w.heap.size w ((wr.setCell ⟨w.heap.size, 0, none⟩ (.int .i64 ((l.length : Int) + 1))).setCell ⟨w.heap.size, 8, none⟩ (.int .i64 0)) ∧ Blk ((wr.setCell ⟨w.heap.size, 0, none⟩ (.int .i64 ((l.length : Int) + 1))).setCell ⟨w.heap.size, 8, none⟩ (.int .i64 0)) w.heap.size 24 #[.int .i64 ((l.length : Int) + 1), .slice A n c, .string ow, .string se, .int .i64 cl, .int .i64 fr, .int .i64 un, .int .i64 cp, .int .i64 0]) :=
          ⟨(HBW.out.1.setCell (p := ⟨w.heap.size, 0, none⟩) (Nat.le_refl _) _).setCell (p := ⟨w.heap.size, 8, none⟩) (Nat.le_refl _) _, (HBW.out.2.set 0 _).set 8 _⟩
        clear d0 d1 d2 d3 d4 d5 d6 d7 d8 hlf b2
        obtain ⟨W8, hW8⟩ : ∃ W8, W8 = (wr.setCell ⟨w.heap.size, 0, none⟩ (.int .i64 ((l.length : Int) + 1))).setCell ⟨w.heap.size, 8, none⟩ (.int .i64 0) := ⟨_, rfl⟩
        rw [← hW8] at HW ⊢
        clear hW8
        obtain ⟨d0, d1, d2, d3, d4, d5, d6, d7, d8⟩ := HW.out.2.nine
        have dp := bat HW.out.1 hp hbc
        have hz8 : w.heap.size < W8.heap.size := HW.out.2.ty.lt
        have HOW : Hid (W8.ownsRow base 24 9 (.slice A0 l.length c0) l.length (rowCells l)) := own_below HOWN.out HW.out.1
        have HBK : Hid (Blk W8 p 60 #[.slice A0 l.length c0]) := Blk.below HBK0.out HW.out.1
        have hp8 : p < W8.heap.size := HBK.out.ty.lt
        have hne1 := World.new_ne W8 ⟨p, 0, none⟩ dp
        have hne2 := World.new_ne W8 ⟨w.heap.size, 0, none⟩ d0
        obtain ⟨i0, hi, hz0, hz1, hz2⟩ := info_parts silInfo
        have HI := Lib.hid (And.intro hi (And.intro hz0 (And.intro hz1 hz2)))
        clear hi hz0 hz1 hz2
        go_region_law (first | (refine step_append_lies _ rfl _ _ 50 rfl base 24 i0 _ 9 104 Try.underlying50 HI.out.1 HI.out.2.1 HI.out.2.2.1 HI.out.2.2.2 rfl (by decide) _ l.length (rowCells l) rfl (by exact (HOW.out).alloc _) ⟨W8.heap.size, 0, none⟩ 1 1 (silCells (⟨(l.length : Int) + 1, ms, ow, se, cl, fr, un, cp, 0⟩, .slice A n c)) rfl rfl (cells9 _ _ _ _ _ _ _ _ _ _ _) (silCells_one _ _ _ _) (by decide) (by simp only [maxLen]; omega) (by omega) (by simp; omega) _ rfl ?_; intro g cap w9 hown9 hg9 hat9 hlt9; have HF9 : Hid (Fr base [24] W8 w9) := grow_fr HOW.out (by first | exact bel1 _ _ | exact (bel1 _ _).drew) hg9; have HB9 : Hid (Blk w9 p 60 #[.slice A0 l.length c0]) := HBK.out.keep HF9.out (by decide); have e9 := HB9.out.one; have ef9 := HB9.out.frozen; have HL9 : Hid (Blk w9 w.heap.size 24 #[.int .i64 ((l.length : Int) + 1), .slice A n c, .string ow, .string se, .int .i64 cl, .int .i64 fr, .int .i64 un, .int .i64 cp, .int .i64 0]) := Blk.beside HW.out.2 (by first | exact bel1 _ _ | exact (bel1 _ _).drew) hg9 (fun hh => by have := (HOWN.out.lt _ hh).2; omega)))
        all_goals
          have d9 := HL9.out.nine.1
          have HFIN : Hid (RBookAt (w9.setCell ⟨p, 0, none⟩ (.slice (some ⟨g, 0, none⟩) (l.length + 1) cap)) base p (l ++ [(⟨(l.length : Int) + 1, ms, ow, se, cl, fr, un, cp, 0⟩, .slice A n c)]) ∧ (Fr base [60, 24] w (w9.setCell ⟨p, 0, none⟩ (.slice (some ⟨g, 0, none⟩) (l.length + 1) cap)) ∧ FF p w (w9.setCell ⟨p, 0, none⟩ (.slice (some ⟨g, 0, none⟩) (l.length + 1) cap)))) :=
            ropen_end HB.out HW.out.1 (HM.out.below HW.out.1) HO.out HF9.out HB9.out hown9 (FF.grow (HW.out.1.trans ((by first | exact bel1 _ _ | exact (bel1 _ _).drew : Below W8.heap.size W8 _).mono HW.out.1.size)) HBK0.out hg9 HB9.out hat9 (by simp; omega))
          clear hown9 hg9 hat9 hlt9 e9 ef9 hne1 hne2 dp d1 d2 d3 d4 d5 d6 d7 d8
          go_wp2
          go_ret2
          rw [E.out]
          exact ⟨rfl, _, HFIN.out.1, by simp, HFIN.out.2⟩

set_option maxRecDepth 100000 in
set_option maxHeartbeats 4000000 in
theorem ropen_ok2 (p base : Nat) (l : List (Sil × Value)) (s : Sil) (A : Option Addr) (n c : Nat) (tick : Int) (w : World) (h : RBookAt w base p l) (hbase : base ≤ w.heap.size) (hm : Mats w base (.slice A n c) s.ms) (hs : SilFit s) (hl : l.length ≤ 10000)
    (hE : (checkE s.ms s.ow s.se s.cl s.fr s.un s.cp tick != 0) = false) (h3 : (s.cl == 3) = true) :
    Calls Try.prog 33 #[.pointer (some ⟨p, 0, none⟩), .agg #[.int .i64 s.id, .slice A n c, .string s.ow, .string s.se, .int .i64 s.cl, .int .i64 s.fr, .int .i64 s.un, .int .i64 s.cp, .int .i64 s.hd], .int .i64 tick] w
      (RRetBook w base p (.tuple #[.int .i64 (openM (l.map Prod.fst) s tick).1.1, .int .i64 (openM (l.map Prod.fst) s tick).1.2]) (openM (l.map Prod.fst) s tick).2) := by
  have E0 : checkE s.ms s.ow s.se s.cl s.fr s.un s.cp tick = 0 := by simpa using hE
  obtain ⟨ht1, ht2, h8, hnm, hnum⟩ := checkE_zero E0
  obtain ⟨g01, g02, g1, g2, g3, g4, g5, g6, g7⟩ := numE_zero hnum
  obtain ⟨id, ms, ow, se, cl, fr, un, cp, hd⟩ := s
  obtain ⟨hmo, hs1, hs2, hu⟩ := hs
  simp only at *
  have h8' : n ≤ 8 := by rw [hm.len.1]; exact h8
  obtain ⟨A0, c0, hblk, hown, hss⟩ := h.form
  have hbc := hblk.one
  have hbf := hblk.frozen
  have hp := hblk.ty.lt
  have HBK0 := Lib.hid hblk
  have HOWN := Lib.hid hown
  have HS := Lib.hid hss
  have HB := Lib.hid h
  have HM := Lib.hid hm
  have HO := Lib.hid hmo
  have HE := Lib.hid hE
  clear h hm hmo hblk hown hss E0 hnum h8 hE
  have hsolo := g7 (by simpa using h3)
  have hse : se.toList.isEmpty = false := by rw [soloB, Bool.or_eq_false_iff] at hsolo; exact hsolo.1
  have hsq : (se.toList == ow.toList) = false := by rw [soloB, Bool.or_eq_false_iff] at hsolo; exact hsolo.2
  clear g7 hsolo
  have HE3 : Hid True := trivial
  go_enter Try.func33, Try.ntmps33
  go_wp2_with (go_at_call 51; refine (rnames_any _ _ _ _ _ _ _ _ _ _ _ ms base _ (by exact HM.out.below (bel1 _ _)) HO.out.2 hs1 hs2).mono ?_; rintro e w1 ⟨rfl, hb1⟩; have HB1 : Hid (Below w.heap.size w w1 ∧ Blk w1 w.heap.size 24 #[.int .i64 id, .slice A n c, .string ow, .string se, .int .i64 cl, .int .i64 fr, .int .i64 un, .int .i64 cp, .int .i64 hd]) := ⟨(bel1 _ _).trans (hb1.mono (by simp)), (Blk.new _ _ _).below hb1⟩; obtain ⟨d0, d1, d2, d3, d4, d5, d6, d7, d8⟩ := HB1.out.2.nine; clear hb1)
  have HR1 := Lib.hid (And.intro HB1.out.1 HB1.out.2)
  clear HB1 d0 d1 d2 d3 d4 d5 d6 d7 d8
  have b1 := bat HR1.out.1 hp hbc
  go_loopw [8, 9] (fun v i wr => CntRel w l.length (fun s => openB s.fr s.un tick) (l.map Prod.fst) #[.int .i64 id, .slice A n c, .string ow, .string se, .int .i64 cl, .int .i64 fr, .int .i64 un, .int .i64 cp, .int .i64 hd] v i wr) (fun _ i _ => l.length - (intOf i).toNat)
  case atStart => exact ⟨0, Nat.zero_le _, rfl, by simp, HR1.out.1, HR1.out.2⟩
  case round =>
    obtain ⟨k, hk, rfl, hcnt, hbw, hbl⟩ := hrel
    clear b1
    have b2 := bat hbw hp hbc
    have hsz := hbw.size
    have hpl : w.heap.size < wr.heap.size := hbl.ty.lt
    obtain ⟨d0, d1, d2, d3, d4, d5, d6, d7, d8⟩ := hbl.nine
    have HBW := Lib.hid (And.intro hbw hbl)
    by_cases hlt : k < l.length
    · obtain ⟨x, hx⟩ : ∃ x, l[k]? = some x := ⟨l[k]'hlt, List.getElem?_eq_getElem _⟩
      obtain ⟨b, off, rfl, hb, ⟨e0, e1, e2, e3, e4, e5, e6, e7, e8⟩, hmx, hmo⟩ := (HS.out.below hbw).at_ k x hx
      obtain ⟨s1, mv⟩ := x
      obtain ⟨A1, cp1, hmv⟩ := hmx.form
      simp only at hmv
      subst hmv
      have HXs : Hid ((l.map Prod.fst)[k]? = some s1) := by rw [Hid, List.getElem?_map, hx]; rfl
      clear hx hmx hmo hbw hbl d0 d1 d2 d3 d4 d5 d6 d7 d8
      obtain ⟨i1, ms1, ow1, se1, cl1, fr1, un1, cpp1, hd1⟩ := s1
      simp only at e0 e1 e2 e3 e4 e5 e6 e7 e8
      have hcl : (((l.map Prod.fst).take k).filter fun s => openB s.fr s.un tick).length ≤ k := Nat.le_trans (List.length_filter_le _ _) (by simp; omega)
      have HC := Lib.hid hcnt
      clear hcnt
      by_cases hq : openB fr1 un1 tick = true
      · have HN := Lib.hid (cnt_yes (p := fun s => openB s.fr s.un tick) HXs.out hq)
        generalize (((l.map Prod.fst).take k).filter fun s => openB s.fr s.un tick).length = cn at *
        obtain rfl := HC.out
        go_wp2_with (go_at_call 52; refine (ropen_any _ _ _ _ _ _ _ _ _ _ _ _ _).mono ?_; rintro e w2 ⟨rfl, hb2⟩; have HB2 := Lib.hid hb2; clear hb2)
        go_roundw
        case rel => exact ⟨k + 1, by omega, by go_num, by rw [HN.out]; go_num, HBW.out.1.trans (HB2.out.mono hsz), HBW.out.2.below HB2.out⟩
        case measure => simp [intOf]; omega
      · have hq' : openB fr1 un1 tick = false := by simpa using hq
        clear hq
        have HN := Lib.hid (cnt_no (p := fun s => openB s.fr s.un tick) HXs.out hq')
        generalize (((l.map Prod.fst).take k).filter fun s => openB s.fr s.un tick).length = cn at *
        obtain rfl := HC.out
        go_wp2_with (go_at_call 52; refine (ropen_any _ _ _ _ _ _ _ _ _ _ _ _ _).mono ?_; rintro e w2 ⟨rfl, hb2⟩; have HB2 := Lib.hid hb2; clear hb2)
        go_roundw
        case rel => exact ⟨k + 1, by omega, by go_num, by rw [HN.out], HBW.out.1.trans (HB2.out.mono hsz), HBW.out.2.below HB2.out⟩
        case measure => simp [intOf]; omega
    · have hcnt' : u8 = .int .i64 (((l.map Prod.fst).filter fun s => openB s.fr s.un tick).length : Nat) := by rw [hcnt, List.take_of_length_le (by simp; omega)]
      clear hcnt
      by_cases hc : 64 ≤ ((l.map Prod.fst).filter fun s => openB s.fr s.un tick).length
      · have E : Hid (openM (l.map Prod.fst) ⟨id, ms, ow, se, cl, fr, un, cp, hd⟩ tick = ((0, 4), l.map Prod.fst)) := by
          unfold openM
          rw [Hid, if_neg (by simp [HE.out]), if_pos hc]
        generalize ((l.map Prod.fst).filter fun s => openB s.fr s.un tick).length = cn at *
        subst hcnt'
        clear hbw hbl
        go_wp2
        go_ret2
        rw [E.out]
        exact ⟨rfl, l, HB.out.below HBW.out.1, rfl, ⟨Fr.of_below HBW.out.1, FF.of_below (rlt HB.out) HBW.out.1⟩⟩
      · have E : Hid (openM (l.map Prod.fst) ⟨id, ms, ow, se, cl, fr, un, cp, hd⟩ tick = (((l.length : Int) + 1, (0 : Int)), l.map Prod.fst ++ [⟨(l.length : Int) + 1, ms, ow, se, cl, fr, un, cp, 0⟩])) := by
          unfold openM
          rw [Hid, if_neg (by simp [HE.out]), if_neg hc]; simp
        generalize ((l.map Prod.fst).filter fun s => openB s.fr s.un tick).length = cn at *
        subst hcnt'
        have hc' : cn < 64 := by omega
        have hlf := hbl.frozen
        clear hbw hbl hc
        go_wp2
        have HW : Hid (Below w.heap.size w ((wr.setCell ⟨w.heap.size, 0, none⟩ (.int .i64 ((l.length : Int) + 1))).setCell ⟨w.heap.size, 8, none⟩ (.int .i64 0)) ∧ Blk ((wr.setCell ⟨w.heap.size, 0, none⟩ (.int .i64 ((l.length : Int) + 1))).setCell ⟨w.heap.size, 8, none⟩ (.int .i64 0)) w.heap.size 24 #[.int .i64 ((l.length : Int) + 1), .slice A n c, .string ow, .string se, .int .i64 cl, .int .i64 fr, .int .i64 un, .int .i64 cp, .int .i64 0]) :=
          ⟨(HBW.out.1.setCell (p := ⟨w.heap.size, 0, none⟩) (Nat.le_refl _) _).setCell (p := ⟨w.heap.size, 8, none⟩) (Nat.le_refl _) _, (HBW.out.2.set 0 _).set 8 _⟩
        clear d0 d1 d2 d3 d4 d5 d6 d7 d8 hlf b2
        obtain ⟨W8, hW8⟩ : ∃ W8, W8 = (wr.setCell ⟨w.heap.size, 0, none⟩ (.int .i64 ((l.length : Int) + 1))).setCell ⟨w.heap.size, 8, none⟩ (.int .i64 0) := ⟨_, rfl⟩
        rw [← hW8] at HW ⊢
        clear hW8
        obtain ⟨d0, d1, d2, d3, d4, d5, d6, d7, d8⟩ := HW.out.2.nine
        have dp := bat HW.out.1 hp hbc
        have hz8 : w.heap.size < W8.heap.size := HW.out.2.ty.lt
        have HOW : Hid (W8.ownsRow base 24 9 (.slice A0 l.length c0) l.length (rowCells l)) := own_below HOWN.out HW.out.1
        have HBK : Hid (Blk W8 p 60 #[.slice A0 l.length c0]) := Blk.below HBK0.out HW.out.1
        have hp8 : p < W8.heap.size := HBK.out.ty.lt
        have hne1 := World.new_ne W8 ⟨p, 0, none⟩ dp
        have hne2 := World.new_ne W8 ⟨w.heap.size, 0, none⟩ d0
        obtain ⟨i0, hi, hz0, hz1, hz2⟩ := info_parts silInfo
        have HI := Lib.hid (And.intro hi (And.intro hz0 (And.intro hz1 hz2)))
        clear hi hz0 hz1 hz2
        go_region_law (first | (refine step_append_lies _ rfl _ _ 50 rfl base 24 i0 _ 9 104 Try.underlying50 HI.out.1 HI.out.2.1 HI.out.2.2.1 HI.out.2.2.2 rfl (by decide) _ l.length (rowCells l) rfl (by exact (HOW.out).alloc _) ⟨W8.heap.size, 0, none⟩ 1 1 (silCells (⟨(l.length : Int) + 1, ms, ow, se, cl, fr, un, cp, 0⟩, .slice A n c)) rfl rfl (cells9 _ _ _ _ _ _ _ _ _ _ _) (silCells_one _ _ _ _) (by decide) (by simp only [maxLen]; omega) (by omega) (by simp; omega) _ rfl ?_; intro g cap w9 hown9 hg9 hat9 hlt9; have HF9 : Hid (Fr base [24] W8 w9) := grow_fr HOW.out (by first | exact bel1 _ _ | exact (bel1 _ _).drew) hg9; have HB9 : Hid (Blk w9 p 60 #[.slice A0 l.length c0]) := HBK.out.keep HF9.out (by decide); have e9 := HB9.out.one; have ef9 := HB9.out.frozen; have HL9 : Hid (Blk w9 w.heap.size 24 #[.int .i64 ((l.length : Int) + 1), .slice A n c, .string ow, .string se, .int .i64 cl, .int .i64 fr, .int .i64 un, .int .i64 cp, .int .i64 0]) := Blk.beside HW.out.2 (by first | exact bel1 _ _ | exact (bel1 _ _).drew) hg9 (fun hh => by have := (HOWN.out.lt _ hh).2; omega)))
        all_goals
          have d9 := HL9.out.nine.1
          have HFIN : Hid (RBookAt (w9.setCell ⟨p, 0, none⟩ (.slice (some ⟨g, 0, none⟩) (l.length + 1) cap)) base p (l ++ [(⟨(l.length : Int) + 1, ms, ow, se, cl, fr, un, cp, 0⟩, .slice A n c)]) ∧ (Fr base [60, 24] w (w9.setCell ⟨p, 0, none⟩ (.slice (some ⟨g, 0, none⟩) (l.length + 1) cap)) ∧ FF p w (w9.setCell ⟨p, 0, none⟩ (.slice (some ⟨g, 0, none⟩) (l.length + 1) cap)))) :=
            ropen_end HB.out HW.out.1 (HM.out.below HW.out.1) HO.out HF9.out HB9.out hown9 (FF.grow (HW.out.1.trans ((by first | exact bel1 _ _ | exact (bel1 _ _).drew : Below W8.heap.size W8 _).mono HW.out.1.size)) HBK0.out hg9 HB9.out hat9 (by simp; omega))
          clear hown9 hg9 hat9 hlt9 e9 ef9 hne1 hne2 dp d1 d2 d3 d4 d5 d6 d7 d8
          go_wp2
          go_ret2
          rw [E.out]
          exact ⟨rfl, _, HFIN.out.1, by simp, HFIN.out.2⟩

theorem ropenb_any (p base : Nat) (l : List (Sil × Value)) (s : Sil) (A : Option Addr) (n c : Nat) (tick : Int) (w : World) (h : RBookAt w base p l) (hbase : base ≤ w.heap.size) (hm : Mats w base (.slice A n c) s.ms) (hs : SilFit s) (hl : l.length ≤ 10000) :
    Calls Try.prog 33 #[.pointer (some ⟨p, 0, none⟩), .agg #[.int .i64 s.id, .slice A n c, .string s.ow, .string s.se, .int .i64 s.cl, .int .i64 s.fr, .int .i64 s.un, .int .i64 s.cp, .int .i64 s.hd], .int .i64 tick] w
      (RRetBook w base p (.tuple #[.int .i64 (openM (l.map Prod.fst) s tick).1.1, .int .i64 (openM (l.map Prod.fst) s tick).1.2]) (openM (l.map Prod.fst) s tick).2) := by
  by_cases hE : (checkE s.ms s.ow s.se s.cl s.fr s.un s.cp tick != 0) = true
  · exact ropen_bad p base l s A n c tick w h hbase hm hs hl hE
  · by_cases h3 : (s.cl == 3) = true
    · exact ropen_ok2 p base l s A n c tick w h hbase hm hs hl (by simpa using hE) h3
    · exact ropen_ok1 p base l s A n c tick w h hbase hm hs hl (by simpa using hE) (by simpa using h3)
end Go.Proofs.Ytoafpajibeejlaa.F
