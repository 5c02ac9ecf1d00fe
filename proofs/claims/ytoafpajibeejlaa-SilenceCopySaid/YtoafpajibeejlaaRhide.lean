/- Hide and Living of the reference's book. -/
import Derived.Test.YtoafpajibeejlaaRmut
set_option linter.unusedVariables false
set_option linter.unusedSimpArgs false
namespace Go.Proofs.Ytoafpajibeejlaa
open Go.RowKit

set_option maxHeartbeats 2000000 in
theorem rhide_any (p base : Nat) (l : List (Sil × Value)) (kd ve st sn : Int) (ru to_ : ByteArray) (A' : Option Addr) (n' c' : Nat) (ls : List Lab) (cls tick : Int) (w : World) (h : RBookAt w base p l) (hbase : base ≤ w.heap.size) (hl : l.length ≤ 10000) (hla : Labs w base (.slice A' n' c') ls) (hfit : ∀ s ∈ l.map Prod.fst, CapFit s) :
    Calls Try.prog 47 #[.pointer (some ⟨p, 0, none⟩), .agg #[.int .i64 kd, .string ru, .int .i64 ve, .slice A' n' c', .int .i64 st, .int .i64 sn, .string to_], .int .i64 cls, .int .i64 tick] w
      (RRetBook w base p (.tuple #[.int .i64 (hideM (l.map Prod.fst) ls cls tick).1.1, .bool (hideM (l.map Prod.fst) ls cls tick).1.2]) (hideM (l.map Prod.fst) ls cls tick).2) := by
  obtain ⟨A0, c0, hblk0, hown0, hss⟩ := h.form
  have hbc := hblk0.one
  have hp := hblk0.ty.lt
  obtain ⟨g, cap, hrow⟩ := h.row
  have HB := Lib.hid h
  have HS := Lib.hid hss
  have HLA := Lib.hid hla
  have HFIT := Lib.hid hfit
  have HROW := Lib.hid hrow
  clear h hss hown0 hla hfit hrow hblk0
  go_enter Try.func47, Try.ntmps47
  go_wp2
  go_loopw [10] (fun i wr => HideRel w l.length (l.map Prod.fst) ls cls tick #[.int .i64 kd, .string ru, .int .i64 ve, .slice A' n' c', .int .i64 st, .int .i64 sn, .string to_] i wr) (fun i _ => l.length - (intOf i).toNat)
  case atStart => exact ⟨0, Nat.zero_le _, rfl, bel1 _ _, Blk.new _ _ _, fun j x _ h => absurd h (by omega)⟩
  case round =>
    obtain ⟨k, hk, rfl, hbw, hpg, hno⟩ := hrel
    have hsz := hbw.size
    have hbp := bat hbw hp hbc
    by_cases hlt : k < l.length
    · obtain ⟨x, hx⟩ : ∃ x, l[k]? = some x := ⟨l[k]'hlt, List.getElem?_eq_getElem _⟩
      obtain ⟨s, mv⟩ := x
      obtain ⟨hblk, hg, hown⟩ := HROW.out (by omega)
      obtain ⟨b, off, hA, hb, ⟨d0, d1, d2, d3, d4, d5, d6, d7, d8⟩, hmx, hmo⟩ := (HS.out.below hbw).at_ k (s, mv) hx
      obtain rfl : A0 = some ⟨g, 0, none⟩ := by have := hblk.one; rw [hbc] at this; simp at this; exact this.1
      simp only [Option.some.injEq, Addr.mk.injEq, and_true] at hA
      obtain ⟨rfl, rfl⟩ := hA
      obtain ⟨A1, cp1, hmv⟩ := hmx.form
      simp only at hmv
      subst hmv
      have hcf := HFIT.out s (List.mem_map.2 ⟨_, List.mem_of_getElem? hx, rfl⟩)
      obtain ⟨e0, e1, e2, e3, e4, e5, e6⟩ := hpg.seven
      have hfz := (own_below hown hbw).frozenAt
      have hpl : w.heap.size < wr.heap.size := hpg.ty.lt
      have hpr : p < wr.heap.size := Nat.lt_of_lt_of_le hp hsz
      have hki : (k : Int) < (l.length : Int) := by omega
      have HX := Lib.hid hx
      have HXs : Hid ((l.map Prod.fst)[k]? = some s) := by rw [Hid, List.getElem?_map, hx]; rfl
      have HM := Lib.hid hmx
      have HOWN := Lib.hid (And.intro hblk (And.intro hg hown))
      have HR := Lib.hid (And.intro hbw (And.intro hpg hno))
      have HLr := Lib.hid (HLA.out.below hbw)
      clear hx hmx hmo hblk hg hown hbw hpg hno
      obtain ⟨hcf1, hcf2⟩ := hcf
      obtain ⟨i, ms, ow, se, cl, fr, un, cp, hd⟩ := s
      simp only [Nat.zero_add] at d0 d1 d2 d3 d4 d5 d6 d7 d8 hcf1 hcf2
      by_cases hq : coversB cl fr un cp hd ms ls cls tick = true
      · have hdc : hd < cp := by simp [coversB] at hq; omega
        have HN : Hid (hideM (l.map Prod.fst) ls cls tick = ((i, true), (l.map Prod.fst).set k ⟨i, ms, ow, se, cl, fr, un, cp, hd + 1⟩)) := hideM_yes HXs.out hq HR.out.2.2
        go_wp2
        go_region_held3 (fun w' => w'.cell? ⟨g, k * 9, none⟩ = some (.int .i64 i) ∧ w'.cell? ⟨g, k * 9 + 1, none⟩ = some (.slice A1 ms.length cp1) ∧ w'.cell? ⟨g, k * 9 + 2, none⟩ = some (.string ow) ∧ w'.cell? ⟨g, k * 9 + 3, none⟩ = some (.string se) ∧ w'.cell? ⟨g, k * 9 + 4, none⟩ = some (.int .i64 cl) ∧ w'.cell? ⟨g, k * 9 + 5, none⟩ = some (.int .i64 fr) ∧ w'.cell? ⟨g, k * 9 + 6, none⟩ = some (.int .i64 un) ∧ w'.cell? ⟨g, k * 9 + 7, none⟩ = some (.int .i64 cp) ∧ w'.cell? ⟨g, k * 9 + 8, none⟩ = some (.int .i64 hd) ∧ w'.cell? ⟨w.heap.size, 0, none⟩ = some (.int .i64 kd) ∧ w'.cell? ⟨w.heap.size, 1, none⟩ = some (.string ru) ∧ w'.cell? ⟨w.heap.size, 2, none⟩ = some (.int .i64 ve) ∧ w'.cell? ⟨w.heap.size, 3, none⟩ = some (.slice A' n' c') ∧ w'.cell? ⟨w.heap.size, 4, none⟩ = some (.int .i64 st) ∧ w'.cell? ⟨w.heap.size, 5, none⟩ = some (.int .i64 sn) ∧ w'.cell? ⟨w.heap.size, 6, none⟩ = some (.string to_) ∧ w'.cell? ⟨p, 0, none⟩ = some (.slice (some ⟨g, 0, none⟩) l.length c0))
          (first | go_keep | exact ⟨bat hb1 hb d0, bat hb1 hb d1, bat hb1 hb d2, bat hb1 hb d3, bat hb1 hb d4, bat hb1 hb d5, bat hb1 hb d6, bat hb1 hb d7, bat hb1 hb d8, bat hb1 hpl e0, bat hb1 hpl e1, bat hb1 hpl e2, bat hb1 hpl e3, bat hb1 hpl e4, bat hb1 hpl e5, bat hb1 hpl e6, bat hb1 hpr hbp⟩)
          (first | (go_at_call 18; refine (rcovers_any _ _ _ _ _ _ _ _ _ _ _ _ _ _ _ _ _ _ _ _ base ms ls _ _ _ (by exact HM.out) (by exact HLr.out)).mono ?_; rintro e w1 ⟨rfl, hb1⟩))
        have HB1 : Hid (Below w.heap.size w w1 ∧ Blk w1 w.heap.size 36 #[.int .i64 kd, .string ru, .int .i64 ve, .slice A' n' c', .int .i64 st, .int .i64 sn, .string to_]) := ⟨HR.out.1.drew.trans (hb1.mono hsz), Blk.below (w := wr.drew) HR.out.2.1 hb1⟩
        have f0 := bat hb1 hb d0
        have f8 := bat hb1 hb d8
        have fp := bat hb1 hpr hbp
        have ff : ∀ o, w1.frozen? ⟨g, o, none⟩ = false := fun o => (hb1.frozen (p := ⟨g, o, none⟩) hb).trans (hfz o)
        have hgl1 : g < w1.heap.size := Nat.lt_of_lt_of_le hb hb1.size
        clear hb1 d0 d1 d2 d3 d4 d5 d6 d7 d8 e0 e1 e2 e3 e4 e5 e6 hfz
        go_wp2
        go_ret2
        rw [HN.out]
        have hset := rbook_set (s' := ⟨i, ms, ow, se, cl, fr, un, cp, hd + 1⟩) HB.out HB1.out.1 HOWN.out.1 HOWN.out.2.1 HOWN.out.2.2 HX.out rfl (row_hidden l k _ _ (hd + 1) HX.out)
        exact ⟨rfl, _, hset.1, map_set _ _ _ _, hset.2⟩
      · have hq' : coversB cl fr un cp hd ms ls cls tick = false := by simpa using hq
        clear hq
        go_wp2
        go_region_held3 (fun w' => w'.cell? ⟨g, k * 9, none⟩ = some (.int .i64 i) ∧ w'.cell? ⟨g, k * 9 + 1, none⟩ = some (.slice A1 ms.length cp1) ∧ w'.cell? ⟨g, k * 9 + 2, none⟩ = some (.string ow) ∧ w'.cell? ⟨g, k * 9 + 3, none⟩ = some (.string se) ∧ w'.cell? ⟨g, k * 9 + 4, none⟩ = some (.int .i64 cl) ∧ w'.cell? ⟨g, k * 9 + 5, none⟩ = some (.int .i64 fr) ∧ w'.cell? ⟨g, k * 9 + 6, none⟩ = some (.int .i64 un) ∧ w'.cell? ⟨g, k * 9 + 7, none⟩ = some (.int .i64 cp) ∧ w'.cell? ⟨g, k * 9 + 8, none⟩ = some (.int .i64 hd) ∧ w'.cell? ⟨w.heap.size, 0, none⟩ = some (.int .i64 kd) ∧ w'.cell? ⟨w.heap.size, 1, none⟩ = some (.string ru) ∧ w'.cell? ⟨w.heap.size, 2, none⟩ = some (.int .i64 ve) ∧ w'.cell? ⟨w.heap.size, 3, none⟩ = some (.slice A' n' c') ∧ w'.cell? ⟨w.heap.size, 4, none⟩ = some (.int .i64 st) ∧ w'.cell? ⟨w.heap.size, 5, none⟩ = some (.int .i64 sn) ∧ w'.cell? ⟨w.heap.size, 6, none⟩ = some (.string to_) ∧ w'.cell? ⟨p, 0, none⟩ = some (.slice (some ⟨g, 0, none⟩) l.length c0))
          (first | go_keep | exact ⟨bat hb1 hb d0, bat hb1 hb d1, bat hb1 hb d2, bat hb1 hb d3, bat hb1 hb d4, bat hb1 hb d5, bat hb1 hb d6, bat hb1 hb d7, bat hb1 hb d8, bat hb1 hpl e0, bat hb1 hpl e1, bat hb1 hpl e2, bat hb1 hpl e3, bat hb1 hpl e4, bat hb1 hpl e5, bat hb1 hpl e6, bat hb1 hpr hbp⟩)
          (first | (go_at_call 18; refine (rcovers_any _ _ _ _ _ _ _ _ _ _ _ _ _ _ _ _ _ _ _ _ base ms ls _ _ _ (by exact HM.out) (by exact HLr.out)).mono ?_; rintro e w1 ⟨rfl, hb1⟩))
        have HB1 : Hid (Below w.heap.size w w1 ∧ Blk w1 w.heap.size 36 #[.int .i64 kd, .string ru, .int .i64 ve, .slice A' n' c', .int .i64 st, .int .i64 sn, .string to_]) := ⟨HR.out.1.drew.trans (hb1.mono hsz), Blk.below (w := wr.drew) HR.out.2.1 hb1⟩
        have f0 := bat hb1 hb d0
        have f8 := bat hb1 hb d8
        have fp := bat hb1 hpr hbp
        have ff : ∀ o, w1.frozen? ⟨g, o, none⟩ = false := fun o => (hb1.frozen (p := ⟨g, o, none⟩) hb).trans (hfz o)
        have hgl1 : g < w1.heap.size := Nat.lt_of_lt_of_le hb hb1.size
        clear hb1 d0 d1 d2 d3 d4 d5 d6 d7 d8 e0 e1 e2 e3 e4 e5 e6 hfz
        go_wp2
        go_roundw
        case rel => exact ⟨k + 1, by omega, by go_num, HB1.out.1, HB1.out.2, hide_next HXs.out hq' HR.out.2.2⟩
        case measure => simp [intOf]; omega
    · have HN : Hid (hideM (l.map Prod.fst) ls cls tick = ((0, false), l.map Prod.fst)) := hideM_no (fun j x hj => hno j x hj (by
        have := (List.getElem?_eq_some_iff.1 hj).1
        simp at this; omega))
      clear hno
      go_wp2
      go_ret2
      rw [HN.out]
      exact ⟨rfl, l, HB.out.below hbw, rfl, Fr.of_below hbw⟩

theorem grow_next0 {w wr w2 w3 : World} {o2 : Obj} {base k t : Nat} {l' : List (Sil × Value)} {s : Sil} {v mv : Value} (hbase : base ≤ w.heap.size) (hlen : l'.length = k)
    (hown : wr.ownsRow w.heap.size t 9 v k (rowCells l')) (hok : SilsOk wr base l') (hbw : Below w.heap.size w wr) (hb2 : Below wr.heap.size wr w2) (hm2 : Mats w2 base mv s.ms) (hms : MsOk s.ms)
    (hg3 : (w2.alloc o2).grownBy w3 v.ownBlock) (ht : t ≠ 27) :
    SilsOk w3 base (l' ++ [(s, mv)]) ∧ Below w.heap.size w w3 := by
  have hown2 : (w2.alloc o2).ownsRow w.heap.size t 9 v k (rowCells l') := (own_below hown hb2).alloc _
  have hty := own_ty hown2
  have f : Fr base [t] (w2.alloc o2) w3 := Fr.grown (Fr.refl _ _ _) hg3 (fun g hg => ⟨Nat.le_trans hbase (hty g hg).1, (hty g hg).2⟩) (by simp)
  have hn : 27 ∉ [t] := by simp; exact fun h => ht h.symm
  have hz : w.heap.size ≤ w2.heap.size := by have := hb2.size; have := hbw.size; omega
  refine ⟨fun x hx => ?_, ?_⟩
  · rcases List.mem_append.1 hx with hx | hx
    · exact ((hok.below hb2).below (bel1 _ _)).keep f hn x hx
    · simp at hx; subst hx
      exact ⟨(hm2.below (bel1 _ _)).keep f hn, hms⟩
  · have h2 : Below w.heap.size w w2 := hbw.trans (hb2.mono hbw.size)
    exact (h2.alloc hz _).grown hg3 (by simp; omega) (fun g hg => (hty g hg).1)

/-- what the loop of Living knows -/
def RlRel (w : World) (n base : Nat) (p : Sil → Bool) (l : List (Sil × Value)) (v i : Value) (wr : World) : Prop :=
  ∃ (k : Nat) (l' : List (Sil × Value)), k ≤ n ∧ i = .int .i64 k ∧ l' = (l.take k).filter (fun x => p x.1) ∧ l'.length ≤ k ∧ wr.ownsRow w.heap.size 24 9 v l'.length (rowCells l') ∧ SilsOk wr base l' ∧ Below w.heap.size w wr

set_option maxHeartbeats 2000000 in
theorem rliving_any (p base : Nat) (l : List (Sil × Value)) (tick : Int) (w : World) (h : RBookAt w base p l) (hbase : base ≤ w.heap.size) (hl : l.length ≤ 10000) :
    Calls Try.prog 29 #[.pointer (some ⟨p, 0, none⟩), .int .i64 tick] w (RetSils w base (livingM (l.map Prod.fst) tick)) := by
  obtain ⟨A0, c0, hblk0, hown0, hss⟩ := h.form
  have hbc := hblk0.one
  have hp := hblk0.ty.lt
  have HS := Lib.hid hss
  obtain ⟨i0, hi, hz0, hz1, hz2⟩ := info_parts silInfo
  clear h hss hown0 hblk0
  go_enter Try.func29, Try.ntmps29
  go_wp2
  go_loopw [5, 6] (fun v i wr => RlRel w l.length base (fun s => livesB s.fr s.un tick) l v i wr) (fun _ i _ => l.length - (intOf i).toNat)
  case atStart => exact ⟨0, [], Nat.zero_le _, rfl, by simp, by simp, World.ownsRow_nil _ _ _ _, fun x hx => by simp at hx, Below.refl _ _⟩
  case round =>
    obtain ⟨k, l', hk, rfl, hl', hlen, hown, hok, hbw⟩ := hrel
    have hsz := hbw.size
    have hbp := bat hbw hp hbc
    have hpr : p < wr.heap.size := Nat.lt_of_lt_of_le hp hsz
    by_cases hlt : k < l.length
    · obtain ⟨x, hx⟩ : ∃ x, l[k]? = some x := ⟨l[k]'hlt, List.getElem?_eq_getElem _⟩
      obtain ⟨b, off, rfl, hb, ⟨c0, c1, c2, c3, c4, c5, c6, c7, c8⟩, hmx, hmo⟩ := (HS.out.below hbw).at_ k x hx
      obtain ⟨s, mv⟩ := x
      obtain ⟨A1, cp1, hmv⟩ := hmx.form
      simp only at hmv
      subst hmv
      have HX := Lib.hid hx
      have HM := Lib.hid hmx
      have HO := Lib.hid hmo
      have HR : Hid (l' = (l.take k).filter (fun x => livesB x.1.fr x.1.un tick) ∧ wr.ownsRow w.heap.size 24 9 u5 l'.length (rowCells l') ∧ SilsOk wr base l' ∧ Below w.heap.size w wr) := ⟨hl', hown, hok, hbw⟩
      clear hx hmx hmo hl' hown hok hbw
      obtain ⟨id, ms, ow, se, cl, fr, un, cp, hd⟩ := s
      simp only at c0 c1 c2 c3 c4 c5 c6 c7 c8
      by_cases hq : livesB fr un tick = true
      · go_wp2_with (first | (go_at_call 37; refine (rlives_any _ _ _ _ _ _ _ _ _ _ _ _ _).mono ?_; rintro e w2 ⟨rfl, hb2⟩; obtain ⟨hc2, hf2⟩ := bcell hb2; have hz2' := hb2.size; have HB2 := Lib.hid hb2; clear hb2) | (at_builtin; refine wpList_append_own_at _ rfl _ _ 50 rfl w.heap.size 24 i0 _ 9 104 Try.underlying50 hi hz0 hz1 hz2 rfl (by decide) _ l'.length (rowCells l') rfl (by exact (own_below HR.out.2.1 HB2.out).alloc _) ⟨w2.heap.size, 0, none⟩ 1 1 (silCells (⟨id, ms, ow, se, cl, fr, un, cp, hd⟩, .slice A1 ms.length cp1)) rfl rfl (cells9 _ _ _ _ _ _ _ _ _ _ _) (silCells_one _ _ _ _) (by simp only [maxLen]; omega) (by omega) (by simp; omega) ?_; intro v' w3 hown3 hg3 _ hat3))
        have HF : Hid (SilsOk w3 base (l' ++ [(⟨id, ms, ow, se, cl, fr, un, cp, hd⟩, .slice A1 ms.length cp1)]) ∧ Below w.heap.size w w3) := grow_next0 hbase rfl HR.out.2.1 HR.out.2.2.1 HR.out.2.2.2 HB2.out (HM.out.below HB2.out) HO.out hg3 (by decide)
        have HOW : Hid (w3.ownsRow w.heap.size 24 9 v' (l' ++ [((⟨id, ms, ow, se, cl, fr, un, cp, hd⟩ : Sil), (.slice A1 ms.length cp1 : Value))]).length (rowCells (l' ++ [(⟨id, ms, ow, se, cl, fr, un, cp, hd⟩, .slice A1 ms.length cp1)]))) := by rw [Hid, rowCells_snoc, List.length_append]; exact hown3
        clear hown3 hg3 hat3
        go_roundw
        case rel => exact ⟨k + 1, _, by omega, by go_num, by rw [fil_yes (p := fun s => livesB s.fr s.un tick) HX.out hq, ← HR.out.1], by simp; omega, HOW.out, HF.out.1, HF.out.2⟩
        case measure => simp [intOf]; omega
      · have hq' : livesB fr un tick = false := by simpa using hq
        clear hq
        go_wp2_with (go_at_call 37; refine (rlives_any _ _ _ _ _ _ _ _ _ _ _ _ _).mono ?_; rintro e w2 ⟨rfl, hb2⟩; have HB2 := Lib.hid hb2; clear hb2)
        go_roundw
        case rel => exact ⟨k + 1, l', by omega, by go_num, by rw [fil_no (p := fun s => livesB s.fr s.un tick) HX.out hq', ← HR.out.1], by omega, own_below HR.out.2.1 HB2.out, HR.out.2.2.1.below HB2.out, HR.out.2.2.2.trans (HB2.out.mono hsz)⟩
        case measure => simp [intOf]; omega
    · obtain ⟨A2, c2, hv2⟩ := own_form hown
      have HV := Lib.hid hv2
      have HL' : Hid (l' = l.filter (fun x => livesB x.1.fr x.1.un tick)) := by rw [Hid, hl', List.take_of_length_le (by omega)]
      clear hv2 hl'
      go_wp2
      go_ret
      refine ⟨A2, _, c2, l', congrArg Ending.returned HV.out, ?_, by rw [← HV.out]; exact hown, hok, hbw⟩
      rw [HL'.out]; exact living_map l (fun s => livesB s.fr s.un tick)
end Go.Proofs.Ytoafpajibeejlaa
