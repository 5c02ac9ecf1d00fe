/- Hide and Living of a book. -/
import Derived.Test.YtoafpajibeejlaaMut
set_option linter.unusedVariables false
set_option linter.unusedSimpArgs false
namespace Go.Proofs.Ytoafpajibeejlaa
open Go.RowKit

def covS (s : Sil) (ls : List Lab) (cls tick : Int) : Bool := coversB s.cl s.fr s.un s.cp s.hd s.ms ls cls tick
/-- the first silence that covers the page -/
def firstK (l : List Sil) (ls : List Lab) (cls tick : Int) : Option Nat := l.findIdx? fun s => covS s ls cls tick
/-- Hide, on plain data -/
def hideM (l : List Sil) (ls : List Lab) (cls tick : Int) : (Int × Bool) × List Sil := match firstK l ls cls tick with
  | none => ((0, false), l)
  | some k => match l[k]? with
    | none => ((0, false), l)
    | some s => ((s.id, true), l.set k { s with hd := s.hd + 1 })

theorem hideM_yes {l : List Sil} {ls : List Lab} {cls tick : Int} {k : Nat} {s : Sil} (hk : l[k]? = some s) (h : covS s ls cls tick = true) (hn : ∀ j x, l[j]? = some x → j < k → covS x ls cls tick = false) :
    hideM l ls cls tick = ((s.id, true), l.set k { s with hd := s.hd + 1 }) := by
  obtain ⟨hlt, e⟩ := List.getElem?_eq_some_iff.1 hk
  have : firstK l ls cls tick = some k := by
    unfold firstK
    rw [List.findIdx?_eq_some_iff_getElem]
    refine ⟨hlt, by rw [e]; exact h, fun j hj => ?_⟩
    rw [hn j _ (List.getElem?_eq_getElem (by omega)) hj]; simp
  unfold hideM
  rw [this]
  simp [hk]
theorem hideM_no {l : List Sil} {ls : List Lab} {cls tick : Int} (hn : ∀ (j : Nat) (x : Sil), l[j]? = some x → covS x ls cls tick = false) : hideM l ls cls tick = ((0, false), l) := by
  have : firstK l ls cls tick = none := by
    unfold firstK
    rw [List.findIdx?_eq_none_iff]
    intro x hx
    obtain ⟨j, hj, rfl⟩ := List.mem_iff_getElem.1 hx
    exact hn j _ (List.getElem?_eq_getElem hj)
  unfold hideM
  rw [this]

theorem own_base {w : World} {B B' t size n : Nat} {v : Value} {xs : List Value} (h : w.ownsRow B t size v n xs) (hb : B' ≤ B) : w.ownsRow B' t size v n xs := by
  refine ⟨h.1, ?_⟩
  rcases h.2 with h2 | ⟨g, cap, cur, hv, hg, r⟩
  · exact .inl h2
  · exact .inr ⟨g, cap, cur, hv, Nat.le_trans hb hg, r⟩

/-- the counts of a silence fit -/
def CapFit (s : Sil) : Prop := s.cp ≤ 9223372036854775807 ∧ -9223372036854775808 ≤ s.hd

theorem Blk.seven {w : World} {b : Nat} {t : TypeId} {v0 v1 v2 v3 v4 v5 v6 : Value} (h : Blk w b t #[v0, v1, v2, v3, v4, v5, v6]) : w.cell? ⟨b, 0, none⟩ = some v0 ∧ w.cell? ⟨b, 1, none⟩ = some v1 ∧ w.cell? ⟨b, 2, none⟩ = some v2 ∧ w.cell? ⟨b, 3, none⟩ = some v3 ∧ w.cell? ⟨b, 4, none⟩ = some v4 ∧ w.cell? ⟨b, 5, none⟩ = some v5 ∧ w.cell? ⟨b, 6, none⟩ = some v6 := by
  unfold Blk at h
  simp [World.cell?, h]

def HideRel (w : World) (n : Nat) (l : List Sil) (ls : List Lab) (cls tick : Int) (pg : Array Value) (i : Value) (wr : World) : Prop :=
  ∃ k : Nat, k ≤ n ∧ i = .int .i64 k ∧ Below w.heap.size w wr ∧ Blk wr w.heap.size 36 pg ∧ ∀ j x, l[j]? = some x → j < k → covS x ls cls tick = false

theorem hide_next {l : List Sil} {ls : List Lab} {cls tick : Int} {k : Nat} {s : Sil} (hk : l[k]? = some s) (h : covS s ls cls tick = false) (hn : ∀ j x, l[j]? = some x → j < k → covS x ls cls tick = false) :
    ∀ j x, l[j]? = some x → j < k + 1 → covS x ls cls tick = false := by
  intro j x hj hlt
  rcases Nat.lt_or_ge j k with h1 | h1
  · exact hn j x hj h1
  · obtain rfl : j = k := by omega
    rw [hk] at hj; cases hj; exact h

set_option maxHeartbeats 2000000 in
theorem hide_any (p base : Nat) (l : List (Sil × Value)) (kd ve st sn : Int) (ru to_ : ByteArray) (A' : Option Addr) (n' c' : Nat) (ls : List Lab) (cls tick : Int) (w : World) (h : BookAt w base p l) (hbase : base ≤ w.heap.size) (hl : l.length ≤ 10000) (hla : Labs w base (.slice A' n' c') ls) (hfit : ∀ s ∈ l.map Prod.fst, CapFit s) :
    Calls Try.prog 24 #[.pointer (some ⟨p, 0, none⟩), .agg #[.int .i64 kd, .string ru, .int .i64 ve, .slice A' n' c', .int .i64 st, .int .i64 sn, .string to_], .int .i64 cls, .int .i64 tick] w
      (RetBook w base p (.tuple #[.int .i64 (hideM (l.map Prod.fst) ls cls tick).1.1, .bool (hideM (l.map Prod.fst) ls cls tick).1.2]) (hideM (l.map Prod.fst) ls cls tick).2) := by
  obtain ⟨A0, c0, hbc, hbf, hp, hown0, hss⟩ := h.form
  obtain ⟨g, cap, hrow⟩ := h.row
  have HB := Lib.hid h
  have HS := Lib.hid hss
  have HLA := Lib.hid hla
  have HFIT := Lib.hid hfit
  have HROW := Lib.hid hrow
  clear h hss hown0 hla hfit hrow
  go_enter Try.func24, Try.ntmps24
  go_wp2
  go_loopw [17] (fun i wr => HideRel w l.length (l.map Prod.fst) ls cls tick #[.int .i64 kd, .string ru, .int .i64 ve, .slice A' n' c', .int .i64 st, .int .i64 sn, .string to_] i wr) (fun i _ => l.length - (intOf i).toNat)
  case atStart => exact ⟨0, Nat.zero_le _, rfl, bel1 _ _, Blk.new _ _ _, fun j x _ h => absurd h (by omega)⟩
  case round =>
    obtain ⟨k, hk, rfl, hbw, hpg, hno⟩ := hrel
    have hsz := hbw.size
    by_cases hlt : k < l.length
    · obtain ⟨x, hx⟩ : ∃ x, l[k]? = some x := ⟨l[k]'hlt, List.getElem?_eq_getElem _⟩
      obtain ⟨s, mv⟩ := x
      obtain ⟨hblk, hg, hown⟩ := HROW.out (by omega)
      obtain ⟨b, off, hA, hb, ⟨d0, d1, d2, d3, d4, d5, d6, d7, d8⟩, hmx, hmo⟩ := (HS.out.below hbw).at_ k (s, mv) hx
      obtain rfl : A0 = some ⟨g, 0, none⟩ := by have := hblk.one; rw [hbc] at this; simp at this; exact this.1
      simp only [Option.some.injEq, Addr.mk.injEq, and_true] at hA
      obtain ⟨rfl, rfl⟩ := hA
      obtain ⟨A1, cp1, hmv⟩ := hmx.form
      simp only at hmv
      subst hmv
      have hcf := HFIT.out s (List.mem_map.2 ⟨_, List.mem_of_getElem? hx, rfl⟩)
      obtain ⟨e0, e1, e2, e3, e4, e5, e6⟩ := hpg.seven
      have hbp := bat hbw hp hbc
      have hfz := (own_below hown hbw).frozenAt
      have hpl : w.heap.size < wr.heap.size := hpg.ty.lt
      have HX := Lib.hid hx
      have HXs : Hid ((l.map Prod.fst)[k]? = some s) := by rw [Hid, List.getElem?_map, hx]; rfl
      have HM := Lib.hid hmx
      have HOWN := Lib.hid (And.intro hblk (And.intro hg hown))
      have HR := Lib.hid (And.intro hbw (And.intro hpg hno))
      have HLr := Lib.hid (HLA.out.below hbw)
      clear hx hmx hmo hblk hg hown hbw hpg hno
      obtain ⟨hcf1, hcf2⟩ := hcf
      obtain ⟨i, ms, ow, se, cl, fr, un, cp, hd⟩ := s
      simp only [Nat.zero_add] at d0 d1 d2 d3 d4 d5 d6 d7 d8 hcf1 hcf2
      by_cases hq : coversB cl fr un cp hd ms ls cls tick = true
      · have hdc : hd < cp := by simp [coversB] at hq; omega
        have HN : Hid (hideM (l.map Prod.fst) ls cls tick = ((i, true), (l.map Prod.fst).set k ⟨i, ms, ow, se, cl, fr, un, cp, hd + 1⟩)) := hideM_yes HXs.out hq HR.out.2.2
        go_wp2
        go_region_held3 (fun w' => w'.cell? ⟨g, k * 9, none⟩ = some (.int .i64 i) ∧ w'.cell? ⟨g, k * 9 + 1, none⟩ = some (.slice A1 ms.length cp1) ∧ w'.cell? ⟨g, k * 9 + 2, none⟩ = some (.string ow) ∧ w'.cell? ⟨g, k * 9 + 3, none⟩ = some (.string se) ∧ w'.cell? ⟨g, k * 9 + 4, none⟩ = some (.int .i64 cl) ∧ w'.cell? ⟨g, k * 9 + 5, none⟩ = some (.int .i64 fr) ∧ w'.cell? ⟨g, k * 9 + 6, none⟩ = some (.int .i64 un) ∧ w'.cell? ⟨g, k * 9 + 7, none⟩ = some (.int .i64 cp) ∧ w'.cell? ⟨g, k * 9 + 8, none⟩ = some (.int .i64 hd) ∧
            w'.cell? ⟨w.heap.size, 0, none⟩ = some (.int .i64 kd) ∧ w'.cell? ⟨w.heap.size, 1, none⟩ = some (.string ru) ∧ w'.cell? ⟨w.heap.size, 2, none⟩ = some (.int .i64 ve) ∧ w'.cell? ⟨w.heap.size, 3, none⟩ = some (.slice A' n' c') ∧ w'.cell? ⟨w.heap.size, 4, none⟩ = some (.int .i64 st) ∧ w'.cell? ⟨w.heap.size, 5, none⟩ = some (.int .i64 sn) ∧ w'.cell? ⟨w.heap.size, 6, none⟩ = some (.string to_))
          (first | go_keep | exact ⟨bat hb1 hb d0, bat hb1 hb d1, bat hb1 hb d2, bat hb1 hb d3, bat hb1 hb d4, bat hb1 hb d5, bat hb1 hb d6, bat hb1 hb d7, bat hb1 hb d8, bat hb1 hpl e0, bat hb1 hpl e1, bat hb1 hpl e2, bat hb1 hpl e3, bat hb1 hpl e4, bat hb1 hpl e5, bat hb1 hpl e6⟩)
          (first | (go_at_call 17; refine (covers_any _ _ _ _ _ _ _ _ _ _ _ _ _ _ _ _ _ _ _ _ base ms ls _ _ _ (by exact HM.out) (by exact HLr.out)).mono ?_; rintro e w1 ⟨rfl, hb1⟩))
        have HB1 : Hid (Below w.heap.size w w1 ∧ Blk w1 w.heap.size 36 #[.int .i64 kd, .string ru, .int .i64 ve, .slice A' n' c', .int .i64 st, .int .i64 sn, .string to_]) := ⟨HR.out.1.drew.trans (hb1.mono hsz), Blk.below (w := wr.drew) HR.out.2.1 hb1⟩
        have f0 := bat hb1 hb d0
        have f8 := bat hb1 hb d8
        have ff : ∀ o, w1.frozen? ⟨g, o, none⟩ = false := fun o => (hb1.frozen (p := ⟨g, o, none⟩) hb).trans (hfz o)
        clear hb1 d0 d1 d2 d3 d4 d5 d6 d7 d8 e0 e1 e2 e3 e4 e5 e6 hfz
        go_wp2
        go_ret2
        rw [HN.out]
        have hset := book_set (s' := ⟨i, ms, ow, se, cl, fr, un, cp, hd + 1⟩) HB.out HB1.out.1 HOWN.out.1 HOWN.out.2.1 HOWN.out.2.2 HX.out rfl (row_hidden l k _ _ (hd + 1) HX.out)
        exact ⟨rfl, _, hset.1, map_set _ _ _ _, hset.2⟩
      · have hq' : coversB cl fr un cp hd ms ls cls tick = false := by simpa using hq
        clear hq
        go_wp2
        go_region_held3 (fun w' => w'.cell? ⟨g, k * 9, none⟩ = some (.int .i64 i) ∧ w'.cell? ⟨g, k * 9 + 1, none⟩ = some (.slice A1 ms.length cp1) ∧ w'.cell? ⟨g, k * 9 + 2, none⟩ = some (.string ow) ∧ w'.cell? ⟨g, k * 9 + 3, none⟩ = some (.string se) ∧ w'.cell? ⟨g, k * 9 + 4, none⟩ = some (.int .i64 cl) ∧ w'.cell? ⟨g, k * 9 + 5, none⟩ = some (.int .i64 fr) ∧ w'.cell? ⟨g, k * 9 + 6, none⟩ = some (.int .i64 un) ∧ w'.cell? ⟨g, k * 9 + 7, none⟩ = some (.int .i64 cp) ∧ w'.cell? ⟨g, k * 9 + 8, none⟩ = some (.int .i64 hd) ∧
            w'.cell? ⟨w.heap.size, 0, none⟩ = some (.int .i64 kd) ∧ w'.cell? ⟨w.heap.size, 1, none⟩ = some (.string ru) ∧ w'.cell? ⟨w.heap.size, 2, none⟩ = some (.int .i64 ve) ∧ w'.cell? ⟨w.heap.size, 3, none⟩ = some (.slice A' n' c') ∧ w'.cell? ⟨w.heap.size, 4, none⟩ = some (.int .i64 st) ∧ w'.cell? ⟨w.heap.size, 5, none⟩ = some (.int .i64 sn) ∧ w'.cell? ⟨w.heap.size, 6, none⟩ = some (.string to_))
          (first | go_keep | exact ⟨bat hb1 hb d0, bat hb1 hb d1, bat hb1 hb d2, bat hb1 hb d3, bat hb1 hb d4, bat hb1 hb d5, bat hb1 hb d6, bat hb1 hb d7, bat hb1 hb d8, bat hb1 hpl e0, bat hb1 hpl e1, bat hb1 hpl e2, bat hb1 hpl e3, bat hb1 hpl e4, bat hb1 hpl e5, bat hb1 hpl e6⟩)
          (first | (go_at_call 17; refine (covers_any _ _ _ _ _ _ _ _ _ _ _ _ _ _ _ _ _ _ _ _ base ms ls _ _ _ (by exact HM.out) (by exact HLr.out)).mono ?_; rintro e w1 ⟨rfl, hb1⟩))
        have HB1 : Hid (Below w.heap.size w w1 ∧ Blk w1 w.heap.size 36 #[.int .i64 kd, .string ru, .int .i64 ve, .slice A' n' c', .int .i64 st, .int .i64 sn, .string to_]) := ⟨HR.out.1.drew.trans (hb1.mono hsz), Blk.below (w := wr.drew) HR.out.2.1 hb1⟩
        have f0 := bat hb1 hb d0
        have f8 := bat hb1 hb d8
        have ff : ∀ o, w1.frozen? ⟨g, o, none⟩ = false := fun o => (hb1.frozen (p := ⟨g, o, none⟩) hb).trans (hfz o)
        clear hb1 d0 d1 d2 d3 d4 d5 d6 d7 d8 e0 e1 e2 e3 e4 e5 e6 hfz
        go_wp2
        go_roundw
        case rel => exact ⟨k + 1, by omega, by go_num, HB1.out.1, HB1.out.2, hide_next HXs.out hq' HR.out.2.2⟩
        case measure => simp [intOf]; omega
    · have HN : Hid (hideM (l.map Prod.fst) ls cls tick = ((0, false), l.map Prod.fst)) := hideM_no (fun j x hj => hno j x hj (by
        have := (List.getElem?_eq_some_iff.1 hj).1
        simp at this; omega))
      clear hno
      go_wp2
      go_ret2
      rw [HN.out]
      exact ⟨rfl, l, HB.out.below hbw, rfl, Fr.of_below hbw⟩

/-- Living, on plain data -/
def livingM (l : List Sil) (tick : Int) : List Sil := l.filter fun s => livesB s.fr s.un tick
theorem living_map (l : List (Sil × Value)) (p : Sil → Bool) : (l.filter fun x => p x.1).map Prod.fst = (l.map Prod.fst).filter p := by rw [List.filter_map]; rfl

set_option maxHeartbeats 400000 in
theorem living_any (p base : Nat) (l : List (Sil × Value)) (tick : Int) (w : World) (h : BookAt w base p l) (hbase : base ≤ w.heap.size) (hl : l.length ≤ 10000) :
    Calls Try.prog 25 #[.pointer (some ⟨p, 0, none⟩), .int .i64 tick] w (RetSils w base (livingM (l.map Prod.fst) tick)) := by
  have hlen : (l.filter (fun x => livesB x.1.fr x.1.un tick)).length ≤ 10000 := Nat.le_trans (List.length_filter_le _ _) hl
  have HB := Lib.hid h
  clear h
  go_enter Try.func25, Try.ntmps25
  go_wp2_with (first
    | (go_at_call 40; refine (filter_lives _ p base l tick _ (by exact HB.out) (by omega) hbase (fun _ _ _ _ _ _ _ _ _ _ _ => by kernel_rfl)).mono ?_; rintro e w2 ⟨A2, c2, rfl, ho2, hk2, hb2⟩; have HB2 := Lib.hid (And.intro ho2 (And.intro hk2 hb2)); clear hb2 ho2 hk2)
    | (go_at_call 43; refine (silences_any _ _ _ base (l.filter (fun x => livesB x.1.fr x.1.un tick)) _ (by exact ⟨Seq.of_own HB2.out.1, HB2.out.2.1⟩) (by omega) (by have := HB2.out.2.2.size; omega)).mono ?_; rintro e w3 ⟨A3, n3, c3, l3, rfl, hm3, ho3, hk3, hb3⟩; have HR : Hid (RetSils w base (livingM (l.map Prod.fst) tick) (.returned (.slice A3 n3 c3)) w3) := ⟨A3, n3, c3, l3, rfl, hm3.trans (living_map l (fun s => livesB s.fr s.un tick)), own_base ho3 HB2.out.2.2.size, hk3, HB2.out.2.2.trans (hb3.mono HB2.out.2.2.size)⟩; clear hm3 ho3 hk3 hb3))
  go_ret
  exact HR.out
end Go.Proofs.Ytoafpajibeejlaa
