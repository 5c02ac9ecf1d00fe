/- The reference's book; its Open. -/
import Derived.Test.YtoafpajibeejlaaRnames
set_option linter.unusedVariables false
set_option linter.unusedSimpArgs false
namespace Go.Proofs.Ytoafpajibeejlaa
open Go.RowKit

/-- the reference's book -/
def RBookAt (w : World) (base p : Nat) (l : List (Sil × Value)) : Prop :=
  base ≤ p ∧ ∃ sv, w.heap[p]? = some (.cells #[sv] 60 (0, 0)) ∧ w.ownsRow base 24 9 sv l.length (rowCells l) ∧ SilsOk w base l
def RRetBook (w : World) (base p : Nat) (v : Value) (sl : List Sil) (e : Ending) (w' : World) : Prop :=
  e = .returned v ∧ ∃ l, RBookAt w' base p l ∧ l.map Prod.fst = sl ∧ Fr base [60, 24] w w'

theorem RBookAt.form {w : World} {base p : Nat} {l : List (Sil × Value)} (h : RBookAt w base p l) :
    ∃ A c, Blk w p 60 #[.slice A l.length c] ∧ w.ownsRow base 24 9 (.slice A l.length c) l.length (rowCells l) ∧ Sils w base 24 (.slice A l.length c) l := by
  obtain ⟨hb, sv, hh, hown, hok⟩ := h
  obtain ⟨A, c, rfl⟩ := own_form hown
  exact ⟨A, c, hh, hown, Seq.of_own hown, hok⟩
theorem RBookAt.below {w w' : World} {base p : Nat} {l : List (Sil × Value)} (h : RBookAt w base p l) (hb : Below w.heap.size w w') : RBookAt w' base p l := by
  obtain ⟨h1, sv, hh, hown, hok⟩ := h
  exact ⟨h1, sv, (hb.block p (TyAt.lt ⟨_, _, hh⟩)).trans hh, own_below hown hb, hok.below hb⟩

theorem numE_zero {cl fr un cp tick : Int} {d : Bool} (h : numE cl fr un cp tick d = 0) : 1 ≤ cl ∧ cl ≤ 3 ∧ 1 ≤ cp ∧ cp ≤ 100 ∧ tick ≤ fr ∧ fr < un ∧ un - fr ≤ 1000 ∧ un ≤ 1048576 ∧ (cl = 3 → d = false) := by
  unfold numE at h
  split at h
  · cases h
  · split at h
    · cases h
    · split at h
      · cases h
      · next h1 h2 h3 =>
        refine ⟨by omega, by omega, by omega, by omega, by omega, by omega, by omega, by omega, fun e => ?_⟩
        cases d
        · rfl
        · exact absurd ⟨e, rfl⟩ h3
theorem checkE_zero {ms : List Mat} {ow se : ByteArray} {cl fr un cp tick : Int} (h : checkE ms ow se cl fr un cp tick = 0) : 0 ≤ tick ∧ tick ≤ 1048576 ∧ ms.length ≤ 8 ∧ namesB ms ow se = true ∧ numE cl fr un cp tick (soloB ow se) = 0 := by
  unfold checkE at h
  split at h
  · cases h
  · split at h
    · cases h
    · split at h
      · cases h
      · next h1 h2 h3 => exact ⟨by omega, by omega, by omega, by simpa using h3, h⟩

set_option maxHeartbeats 2000000 in
theorem ropen_bad (p base : Nat) (l : List (Sil × Value)) (s : Sil) (A : Option Addr) (n c : Nat) (tick : Int) (w : World) (h : RBookAt w base p l) (hbase : base ≤ w.heap.size) (hm : Mats w base (.slice A n c) s.ms) (hs : SilFit s) (hl : l.length ≤ 10000)
    (hE : (checkE s.ms s.ow s.se s.cl s.fr s.un s.cp tick != 0) = true) :
    Calls Try.prog 33 #[.pointer (some ⟨p, 0, none⟩), .agg #[.int .i64 s.id, .slice A n c, .string s.ow, .string s.se, .int .i64 s.cl, .int .i64 s.fr, .int .i64 s.un, .int .i64 s.cp, .int .i64 s.hd], .int .i64 tick] w
      (RRetBook w base p (.tuple #[.int .i64 (openM (l.map Prod.fst) s tick).1.1, .int .i64 (openM (l.map Prod.fst) s tick).1.2]) (openM (l.map Prod.fst) s tick).2) := by
  have E0 : openM (l.map Prod.fst) s tick = ((0, checkE s.ms s.ow s.se s.cl s.fr s.un s.cp tick), l.map Prod.fst) := if_pos hE
  obtain ⟨id, ms, ow, se, cl, fr, un, cp, hd⟩ := s
  obtain ⟨hmo, hs1, hs2, hu⟩ := hs
  simp only at *
  have hn := hm.len.1
  have HB := Lib.hid h
  have HM := Lib.hid hm
  have HO := Lib.hid hmo
  have HE := Lib.hid hE
  clear h hm hmo hE
  by_cases ht : tick < 0 ∨ 1048576 < tick
  · have E : Hid (openM (l.map Prod.fst) ⟨id, ms, ow, se, cl, fr, un, cp, hd⟩ tick = ((0, 5), l.map Prod.fst)) := by rw [Hid, E0, checkE, if_pos ht]
    clear E0 hn
    rcases ht with ht | ht
    · go_enter Try.func33, Try.ntmps33
      go_wp2
      go_ret2
      rw [E.out]
      exact ⟨rfl, l, HB.out.below (bel1 _ _), rfl, Fr.of_below (bel1 _ _)⟩
    · go_enter Try.func33, Try.ntmps33
      go_wp2
      go_ret2
      rw [E.out]
      exact ⟨rfl, l, HB.out.below (bel1 _ _), rfl, Fr.of_below (bel1 _ _)⟩
  have ht1 : 0 ≤ tick := by omega
  have ht2 : tick ≤ 1048576 := by omega
  by_cases h8 : 8 < n
  · have E : Hid (openM (l.map Prod.fst) ⟨id, ms, ow, se, cl, fr, un, cp, hd⟩ tick = ((0, 4), l.map Prod.fst)) := by rw [Hid, E0, checkE, if_neg ht, if_pos (by omega)]
    clear E0 hn ht
    go_enter Try.func33, Try.ntmps33
    go_wp2
    go_ret2
    rw [E.out]
    exact ⟨rfl, l, HB.out.below (bel1 _ _), rfl, Fr.of_below (bel1 _ _)⟩
  have h8' : n ≤ 8 := by omega
  by_cases hnm : namesB ms ow se = true
  · have E1 : Hid (checkE ms ow se cl fr un cp tick = numE cl fr un cp tick (soloB ow se)) := by rw [Hid, checkE, if_neg ht, if_neg (by omega), if_neg (by simp [hnm])]
    have E : Hid (openM (l.map Prod.fst) ⟨id, ms, ow, se, cl, fr, un, cp, hd⟩ tick = ((0, numE cl fr un cp tick (soloB ow se)), l.map Prod.fst)) := by rw [Hid, E0, E1.out]
    have HNZ : Hid (numE cl fr un cp tick (soloB ow se) ≠ 0) := Lib.hid (by have := HE.out; rw [E1.out] at this; simpa using this)
    clear E0 hn ht h8 E1
    by_cases hbad : (cl < 1 ∨ 3 < cl ∨ cp < 1 ∨ 100 < cp) ∨ (fr < tick ∨ un ≤ fr ∨ 1000 < un - fr ∨ 1048576 < un)
    · have EN : Hid (numE cl fr un cp tick (soloB ow se) = 5) := by
        unfold numE
        by_cases hx : cl < 1 ∨ 3 < cl ∨ cp < 1 ∨ 100 < cp
        · rw [Hid, if_pos hx]
        · rw [Hid, if_neg hx, if_pos (by omega)]
      go_enter Try.func33, Try.ntmps33
      go_wp2_with (go_at_call 51; refine (rnames_any _ _ _ _ _ _ _ _ _ _ _ ms base _ (by exact HM.out.below (bel1 _ _)) HO.out.2 hs1 hs2).mono ?_; rintro e w1 ⟨rfl, hb1⟩; have HB1 : Hid (Below w.heap.size w w1 ∧ Blk w1 w.heap.size 24 #[.int .i64 id, .slice A n c, .string ow, .string se, .int .i64 cl, .int .i64 fr, .int .i64 un, .int .i64 cp, .int .i64 hd]) := ⟨(bel1 _ _).trans (hb1.mono (by simp)), (Blk.new _ _ _).below hb1⟩; obtain ⟨d0, d1, d2, d3, d4, d5, d6, d7, d8⟩ := HB1.out.2.nine; clear hb1)
      all_goals first
        | (go_ret2; rw [E.out, EN.out]; exact ⟨rfl, l, HB.out.below HB1.out.1, rfl, Fr.of_below HB1.out.1⟩)
        | (exfalso; omega)
    · have hd3 : cl = 3 ∧ soloB ow se = true := by
        have := HNZ.out
        unfold numE at this
        rw [if_neg (by omega), if_neg (by omega)] at this
        by_cases hx : cl = 3 ∧ soloB ow se = true
        · exact hx
        · rw [if_neg hx] at this; exact absurd rfl this
      have EN : Hid (numE cl fr un cp tick (soloB ow se) = 16) := by
        unfold numE
        rw [Hid, if_neg (by omega), if_neg (by omega), if_pos hd3]
      obtain ⟨h3, hsolo⟩ := hd3
      have h3' : (cl == 3) = true := by simp [h3]
      have g01 : 1 ≤ cl := by omega
      have g02 : cl ≤ 3 := by omega
      clear h3
      have g1 : 1 ≤ cp := by omega
      have g2 : cp ≤ 100 := by omega
      have g3 : tick ≤ fr := by omega
      have g4 : fr < un := by omega
      have g5 : un - fr ≤ 1000 := by omega
      have g6 : un ≤ 1048576 := by omega
      clear hbad HNZ
      by_cases he : se.toList.isEmpty = true
      · clear hsolo
        go_enter Try.func33, Try.ntmps33
        go_wp2_with (go_at_call 51; refine (rnames_any _ _ _ _ _ _ _ _ _ _ _ ms base _ (by exact HM.out.below (bel1 _ _)) HO.out.2 hs1 hs2).mono ?_; rintro e w1 ⟨rfl, hb1⟩; have HB1 : Hid (Below w.heap.size w w1 ∧ Blk w1 w.heap.size 24 #[.int .i64 id, .slice A n c, .string ow, .string se, .int .i64 cl, .int .i64 fr, .int .i64 un, .int .i64 cp, .int .i64 hd]) := ⟨(bel1 _ _).trans (hb1.mono (by simp)), (Blk.new _ _ _).below hb1⟩; obtain ⟨d0, d1, d2, d3, d4, d5, d6, d7, d8⟩ := HB1.out.2.nine; clear hb1)
        go_ret2
        rw [E.out, EN.out]
        exact ⟨rfl, l, HB.out.below HB1.out.1, rfl, Fr.of_below HB1.out.1⟩
      · have he' : se.toList.isEmpty = false := by simpa using he
        have hq : (se.toList == ow.toList) = true := by rw [soloB, he'] at hsolo; exact hsolo
        clear hsolo he
        go_enter Try.func33, Try.ntmps33
        go_wp2_with (go_at_call 51; refine (rnames_any _ _ _ _ _ _ _ _ _ _ _ ms base _ (by exact HM.out.below (bel1 _ _)) HO.out.2 hs1 hs2).mono ?_; rintro e w1 ⟨rfl, hb1⟩; have HB1 : Hid (Below w.heap.size w w1 ∧ Blk w1 w.heap.size 24 #[.int .i64 id, .slice A n c, .string ow, .string se, .int .i64 cl, .int .i64 fr, .int .i64 un, .int .i64 cp, .int .i64 hd]) := ⟨(bel1 _ _).trans (hb1.mono (by simp)), (Blk.new _ _ _).below hb1⟩; obtain ⟨d0, d1, d2, d3, d4, d5, d6, d7, d8⟩ := HB1.out.2.nine; clear hb1)
        go_ret2
        rw [E.out, EN.out]
        exact ⟨rfl, l, HB.out.below HB1.out.1, rfl, Fr.of_below HB1.out.1⟩
  · have hnm' : namesB ms ow se = false := by simpa using hnm
    have E : Hid (openM (l.map Prod.fst) ⟨id, ms, ow, se, cl, fr, un, cp, hd⟩ tick = ((0, 8), l.map Prod.fst)) := by rw [Hid, E0, checkE, if_neg ht, if_neg (by omega), if_pos hnm']
    clear E0 hn ht h8 hnm
    go_enter Try.func33, Try.ntmps33
    go_wp2_with (go_at_call 51; refine (rnames_any _ _ _ _ _ _ _ _ _ _ _ ms base _ (by exact HM.out.below (bel1 _ _)) HO.out.2 hs1 hs2).mono ?_; rintro e w1 ⟨rfl, hb1⟩; have HB1 : Hid (Below w.heap.size w w1 ∧ Blk w1 w.heap.size 24 #[.int .i64 id, .slice A n c, .string ow, .string se, .int .i64 cl, .int .i64 fr, .int .i64 un, .int .i64 cp, .int .i64 hd]) := ⟨(bel1 _ _).trans (hb1.mono (by simp)), (Blk.new _ _ _).below hb1⟩; obtain ⟨d0, d1, d2, d3, d4, d5, d6, d7, d8⟩ := HB1.out.2.nine; clear hb1)
    go_ret2
    rw [E.out]
    exact ⟨rfl, l, HB.out.below HB1.out.1, rfl, Fr.of_below HB1.out.1⟩
end Go.Proofs.Ytoafpajibeejlaa
