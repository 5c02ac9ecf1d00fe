/- SilenceExpires: the walk. -/
import Derived.Test.YtoafpajibeejlaaGen4
import Derived.Test.YtoafpajibeejlaaLimit
set_option linter.unusedVariables false
set_option linter.unusedSimpArgs false
namespace Go.Proofs.Ytoafpajibeejlaa
open Go.RowKit

/-- the silence that is opened: no matchers, cap 100 -/
def exS (s : Sil) : Sil := ⟨s.id, [], s.ow, s.se, s.cl, s.fr, s.un, 100, s.hd⟩
/-- the silence in the book -/
def exB (s : Sil) (un hd : Int) : Sil := ⟨1, [], s.ow, s.se, s.cl, s.fr, un, 100, hd⟩
def exE (s : Sil) (start : Int) : Int := checkE [] s.ow s.se s.cl s.fr s.un 100 start

theorem ex_open_bad {s : Sil} {start : Int} (h : (exE s start != 0) = true) : openM [] (exS s) start = ((0, exE s start), []) := by
  unfold openM exS; unfold exE at *; simp only; rw [if_pos h]
theorem ex_open_good {s : Sil} {start : Int} (h : (exE s start != 0) = false) : openM [] (exS s) start = ((1, 0), [exB s s.un 0]) := by
  unfold openM exS exB; unfold exE at h; simp only; rw [if_neg (by rw [h]; simp), if_neg (by simp)]; simp
theorem ex_ok {s : Sil} {start : Int} (h : (exE s start != 0) = false) : start ≤ s.fr ∧ s.fr < s.un ∧ s.un - s.fr ≤ 1000 ∧ s.un ≤ 1048576 ∧ 1 ≤ s.cl ∧ s.cl ≤ 3 := by
  have h' : exE s start = 0 := by simpa using h
  unfold exE checkE numE at h'
  split at h'
  · omega
  · split at h'
    · omega
    · split at h'
      · omega
      · split at h'
        · omega
        · split at h'
          · omega
          · omega
theorem may_self (ow se : ByteArray) : mayB ow se ow = true := by simp [mayB]
theorem ex_find (s : Sil) (un hd : Int) : findE [exB s un hd] 1 s.ow = 0 := by
  unfold findE exB; simp [may_self]
theorem ex_ext_good {s : Sil} {un tick til : Int} (h1 : s.fr ≤ tick) (h2 : tick < un) (h3 : un ≤ til) (h4 : til - tick ≤ 1000) (h5 : til ≤ 1048576) : extendM [exB s un 0] 1 s.ow tick til = (0, [exB s til 0]) := by
  unfold extendM
  rw [if_neg (by rw [ex_find]; simp)]
  have hl : livesB s.fr un tick = true := by simp [livesB, h1, h2]
  simp [exB, hl]
  omega
theorem ex_ext_bad {s : Sil} {un tick til : Int} (h1 : s.fr ≤ tick) (h2 : tick < un) (h3 : til < un ∨ 1000 < til - tick) : extendM [exB s un 0] 1 s.ow tick til = (5, [exB s un 0]) := by
  unfold extendM
  rw [if_neg (by rw [ex_find]; simp)]
  have hl : livesB s.fr un tick = true := by simp [livesB, h1, h2]
  simp [exB, hl]
  omega
theorem ex_hide_yes {s : Sil} {un hd tick : Int} (h1 : s.fr ≤ tick) (h2 : tick < un) (h3 : 1 ≤ s.cl) (h4 : hd < 100) : hideM [exB s un hd] [] 1 tick = ((1, true), [exB s un (hd + 1)]) := by
  have hl : livesB s.fr un tick = true := by simp [livesB, h1, h2]
  have hc : covS (exB s un hd) [] 1 tick = true := by
    unfold covS coversB exB; simp [hl, h3, h4, matchB]
  unfold hideM firstK
  simp [List.findIdx?_cons, hc]
  simp [exB]
theorem ex_hide_no {s : Sil} {un hd tick : Int} (h1 : tick < s.fr ∨ un ≤ tick) : hideM [exB s un hd] [] 1 tick = ((0, false), [exB s un hd]) := by
  have hl : livesB s.fr un tick = false := by simp [livesB]; omega
  have hc : covS (exB s un hd) [] 1 tick = false := by
    unfold covS coversB exB; simp [hl]
  unfold hideM firstK
  simp [List.findIdx?_cons, hc]
theorem ex_living_yes {s : Sil} {un hd tick : Int} (h1 : s.fr ≤ tick) (h2 : tick < un) : livingM [exB s un hd] tick = [exB s un hd] := by
  have hl : livesB s.fr un tick = true := by simp [livesB, h1, h2]
  unfold livingM; simp [exB, hl]
theorem ex_living_no {s : Sil} {un hd tick : Int} (h1 : tick < s.fr ∨ un ≤ tick) : livingM [exB s un hd] tick = [] := by
  have hl : livesB s.fr un tick = false := by simp [livesB]; omega
  unfold livingM; simp [exB, hl]
theorem ex_cap (s : Sil) (un hd : Int) (h : 0 ≤ hd) : ∀ x ∈ [exB s un hd], CapFit x := by
  intro x hx; simp at hx; subst hx; unfold CapFit exB; simp; omega
theorem ex_fit {s : Sil} (h : SilFit s) : SilFit (exS s) := ⟨⟨by simp [exS], fun x hx => by simp [exS] at hx⟩, h.2.1, h.2.2.1, h.2.2.2⟩

/-- what stands in memory: the silence of the call's own at block q, and the book at block q + 1 with one silence -/
def ExSt (w : World) (q : Nat) (s : Sil) (un hd : Int) (W : World) : Prop :=
  w.heap.size ≤ q ∧ (∃ l, BookAt W w.heap.size (q + 1) l ∧ l.map Prod.fst = [exB s un hd]) ∧
  Blk W q 24 #[.int .i64 s.id, .slice none 0 0, .string s.ow, .string s.se, .int .i64 s.cl, .int .i64 s.fr, .int .i64 s.un, .int .i64 100, .int .i64 s.hd] ∧ Fr w.heap.size TT w W
theorem ExSt.next {w W W' : World} {q : Nat} {s : Sil} {un hd un' hd' : Int} {v : Value} {e : Ending} (h : ExSt w q s un hd W) (r : RetBook W w.heap.size (q + 1) v [exB s un' hd'] e W') : e = .returned v ∧ ExSt w q s un' hd' W' := by
  obtain ⟨h1, h2, h3, h4⟩ := h
  obtain ⟨rfl, l', hb, hl, hf⟩ := r
  exact ⟨rfl, h1, ⟨l', hb, hl⟩, h3.keep hf (by decide), h4.trans (hf.more (by decide))⟩
theorem ExSt.below {w W W' : World} {q : Nat} {s : Sil} {un hd : Int} (h : ExSt w q s un hd W) (hb : Below W.heap.size W W') : ExSt w q s un hd W' := by
  obtain ⟨h1, ⟨l, h2, h2'⟩, h3, h4⟩ := h
  exact ⟨h1, ⟨l, h2.below hb, h2'⟩, h3.below hb, h4.then_ hb⟩

theorem new_bookAt {w : World} {k base : Nat} (hk : w.heap.size = k) (hb : base ≤ k) : BookAt (w.alloc (.cells #[.slice none 0 0] 77)) base k [] := by
  subst hk; exact new_book w base hb
/-- the world at the call of Open -/
theorem ex_start {w w1 : World} (hb : Below w.heap.size w w1) (o o' : Obj) : Fr w.heap.size TT w ((w1.alloc o).alloc o') := ((Fr.of_below hb).alloc _).alloc _

def ExRel (w : World) (q : Nat) (s : Sil) (start : Int) (lim til t i : Value) (wr : World) : Prop :=
  ∃ (L U T : Int) (k : Nat), lim = .int .i64 L ∧ til = .int .i64 U ∧ t = .int .i64 T ∧ i = .int .i64 k ∧ k ≤ 3 ∧ s.fr ≤ T ∧ T < U ∧ U ≤ L ∧ L ≤ 10000 + 10000 * k ∧ U ≤ 10000 + 1000 * k ∧ ExSt w q s U 0 wr
def ExRel2 (w : World) (q : Nat) (s : Sil) (U : Int) (i : Value) (wr : World) : Prop :=
  ∃ (k : Nat) (hd : Int), i = .int .i64 k ∧ k ≤ 4 ∧ 0 ≤ hd ∧ hd ≤ k ∧ ExSt w q s U hd wr

set_option maxRecDepth 100000 in
set_option maxHeartbeats 4000000 in
theorem expires_walk (A : Option Addr) (n c : Nat) (l : List Int) (a1 : Int) (A' : Option Addr) (n' c' : Nat) (l' : List Int) (w : World) (h : Ints w w.heap.size (.slice A n c) l) (l1 : -9223372036854775808 ≤ a1) (u1 : a1 ≤ 9223372036854775807) (h' : Ints w w.heap.size (.slice A' n' c') l') :
    Calls Try.prog 5 #[.slice A n c, .int .i64 a1, .slice A' n' c'] w fun e w' => e = .returned (.bool true) ∧ Below w.heap.size w w' := by
  obtain ⟨b0, b1⟩ := around_bd a1 1000 (by omega)
  have HL := Lib.hid h; have HL' := Lib.hid h'; clear h h'
  go_enter Try.func5, Try.ntmps5
  go_wp2_with (first
    | (go_at_call 19; refine (new_any _).mono ?_; rintro e w1 ⟨rfl, rfl⟩)
    | (go_at_call 13; refine (gsil_any _ _ _ w.heap.size l _ _ _ HL.out (Nat.le_refl _) (by omega) (by omega) (by omega) (by omega)).mono ?_; rintro e w1 ⟨s, A1, n1, c1, rfl, hm1, hg1, hb1⟩; have HB := Lib.hid (And.intro hg1 hb1); have hz1 := hb1.size; clear hm1 hg1 hb1)
    | (go_at_call 12; refine (around_any _ _ _ (by omega) (by omega) (by omega) (by omega)).mono ?_; rintro e w1 ⟨rfl, rfl⟩))
  have hsz : w.heap.size ≤ w1.heap.size + 1 := by omega
  by_cases hE : (exE s (around a1 1000) != 0) = true
  · refine (bopen_eq (w1.heap.size + 1) w.heap.size [] (exS s) none 0 0 _ _ [] _ _ [] (new_bookAt (by simp) hsz) (by simp; omega) (noMats _ _) (ex_fit HB.out.1.1) (by simp) rfl (ex_open_bad hE)).mono ?_
    rintro e w2 ⟨rfl, l2, hb2, hl2, hf2⟩
    have hs2 := hf2.size
    have hn2 : l2.length = 0 := by simpa using congrArg List.length hl2
    have HS : Hid (BookAt w2 w.heap.size (w1.heap.size + 1) l2 ∧ l2.length = 0 ∧ l2.map Prod.fst = [] ∧ Fr w.heap.size TT w w2 ∧ w.heap.size ≤ w2.heap.size) := ⟨hb2, hn2, hl2, (ex_start HB.out.2 _ _).trans (hf2.more (by decide)), by simp at hs2; omega⟩
    clear hb2 hl2 hf2 hn2
    go_wp2_with (first
      | (go_at_call 21
         refine (all_any (w1.heap.size + 1) w.heap.size l2 _ HS.out.1 (by rw [HS.out.2.1]; omega) HS.out.2.2.2.2).mono ?_
         rintro e w6 ⟨A6, n6, c6, l6, rfl, hm6, ho6, hk6, hb6⟩
         obtain ⟨A6', c6', hv6⟩ := own_form ho6
         have hn6 : n6 = l6.length := by injection hv6
         have hn7 : l6.length = 0 := by have := congrArg List.length hm6; rw [HS.out.2.2.1] at this; simpa using this
         obtain rfl : n6 = 0 := by omega
         have HF6 : Hid (Fr w.heap.size TT w w6) := HS.out.2.2.2.1.then_ hb6
         clear hm6 ho6 hk6 hb6 hv6 hn6 hn7)
      | (go_at_call 15
         refine (lives_true _).mono ?_
         rintro e w8 ⟨rfl, hb8⟩
         have HX8 : Hid (Fr w.heap.size TT w w8) := HF6.out.then_ hb8
         clear hb8))
    go_ret
    exact ⟨rfl, HX8.out.to_below⟩
  have hE' : (exE s (around a1 1000) != 0) = false := by simpa using hE
  clear hE
  obtain ⟨k1, k2, k3, k4, k5, k6⟩ := ex_ok hE'
  have k7 : s.fr ≤ around a1 1000 + 2 := HB.out.1.2.2.2.2.1.2
  refine (bopen_eq (w1.heap.size + 1) w.heap.size [] (exS s) none 0 0 _ _ [] _ _ [exB s s.un 0] (new_bookAt (by simp) hsz) (by simp; omega) (noMats _ _) (ex_fit HB.out.1.1) (by simp) rfl (ex_open_good hE')).mono ?_
  rintro e w2 ⟨rfl, l2, hb2, hl2, hf2⟩
  have HS : Hid (ExSt w w1.heap.size s s.un 0 w2) := ⟨by omega, ⟨l2, hb2, hl2⟩, ((Blk.newAt _ _ rfl).below (bel1 _ _)).keep hf2 (by decide), (ex_start HB.out.2 _ _).trans (hf2.more (by decide))⟩
  generalize w1.heap.size = q at *
  clear hb2 hl2 hf2 HB hE'
  have hq : w.heap.size ≤ q := HS.out.1
  obtain ⟨d0, d1, d2, d3, d4, d5, d6, d7, d8⟩ := HS.out.2.2.1.nine
  have df := HS.out.2.2.1.frozen
  go_wp2_with fail
  clear d0 d1 d2 d3 d4 d5 d6 d7 d8 df
  go_loopw [12, 13, 14, 15] (fun lim til t i wr => ExRel w q s (around a1 1000) lim til t i wr) (fun _ _ _ i _ => (3 - intOf i).toNat)
  case atStart => exact ⟨_, _, _, 0, rfl, rfl, rfl, rfl, by omega, by omega, by omega, by omega, by omega, by omega, HS.out⟩
  case round =>
    obtain ⟨L, U, T, k, rfl, rfl, rfl, rfl, hk, c1, c2, c3, c4, c5, hst⟩ := hrel
    have HT := Lib.hid hst; clear hst HS
    obtain ⟨d0, d1, d2, d3, d4, d5, d6, d7, d8⟩ := HT.out.2.2.1.nine
    have df := HT.out.2.2.1.frozen
    by_cases hlt : k < 3
    · obtain ⟨p1, p2⟩ := pick_bd l' (2 * (k : Int)) (U - T) (by omega)
      obtain ⟨p3, p4⟩ := pick_bd l' (2 * (k : Int) + 1) 1200 (by omega)
      generalize hP : pickZ l' (2 * (k : Int)) (U - T) = P at *
      generalize hR : pickZ l' (2 * (k : Int) + 1) 1200 = R at *
      have HP := Lib.hid hP; have HR := Lib.hid hR; clear hP hR
      have HI : Hid (Ints wr w.heap.size (.slice A' n' c') l') := HL'.out.keep HT.out.2.2.2 (by decide)
      obtain ⟨lb, hbk, hlb⟩ := HT.out.2.1
      have HK := Lib.hid (And.intro hbk hlb); clear hbk hlb
      by_cases hgood : U ≤ U + R - 100 ∧ U + R - 100 - (T + P) ≤ 1000
      · obtain ⟨g1, g2⟩ := hgood
        have g3 : U + R - 100 ≤ T + P + 1000 := by omega
        go_wp2_with (first
          | (go_at_call 22; refine (pick_any _ _ _ w.heap.size l' _ _ _ HI.out (by omega) (by omega)).mono ?_; rintro e w3 ⟨rfl, rfl⟩; first | rw [HP.out] | rw [HR.out])
          | (go_at_call 23; refine (extend_eq (q + 1) w.heap.size lb 1 (T + P) (U + R - 100) s.ow _ [exB s U 0] 0 [exB s (U + R - 100) 0] HK.out.1 (by have := congrArg List.length HK.out.2; simp at this; omega) (by omega) (by omega) (by omega) (by omega) (by omega) HK.out.2 (ex_ext_good (by omega) (by omega) (by omega) (by omega) (by omega))).mono ?_; rintro e w3 hr3; obtain ⟨rfl, hst3⟩ := HT.out.next hr3; have HT3 := Lib.hid hst3; clear hst3 hr3))
        go_roundw
        case rel => exact ⟨T + P + 1000, U + R - 100, T + P, k + 1, rfl, rfl, rfl, by go_num, by omega, by omega, by omega, by omega, by omega, by omega, HT3.out⟩
        case measure => simp [intOf]; omega
      · have hbad : U + R - 100 < U ∨ 1000 < U + R - 100 - (T + P) := by omega
        clear hgood
        have HE := Lib.hid (ex_ext_bad (s := s) (un := U) (tick := T + P) (til := U + R - 100) (by omega) (by omega) hbad)
        rcases Int.lt_or_le (U + R - 100) U with hb1 | hb1
        all_goals
          have hb2 : U + R - 100 < U ∨ T + P + 1000 < U + R - 100 := by omega
          clear hbad
          try (have hb3 : T + P + 1000 < U + R - 100 := by omega)
          clear hb2
          go_wp2_with (first
            | (go_at_call 22; refine (pick_any _ _ _ w.heap.size l' _ _ _ HI.out (by omega) (by omega)).mono ?_; rintro e w3 ⟨rfl, rfl⟩; first | rw [HP.out] | rw [HR.out])
            | (go_at_call 23; refine (extend_eq (q + 1) w.heap.size lb 1 (T + P) (U + R - 100) s.ow _ [exB s U 0] 5 [exB s U 0] HK.out.1 (by have := congrArg List.length HK.out.2; simp at this; omega) (by omega) (by omega) (by omega) (by omega) (by omega) HK.out.2 HE.out).mono ?_; rintro e w3 hr3; obtain ⟨rfl, hst3⟩ := HT.out.next hr3; have HT3 := Lib.hid hst3; clear hst3 hr3))
          go_roundw
          case rel => exact ⟨L, U, T + P, k + 1, rfl, rfl, rfl, by go_num, by omega, by omega, by omega, by omega, by omega, by omega, HT3.out⟩
          case measure => simp [intOf]; omega
    · go_wp2_with fail
      clear d0 d1 d2 d3 d4 d5 d6 d7 d8 df
      go_loopw [18] (fun i wr => ExRel2 w q s U i wr) (fun i _ => (4 - intOf i).toNat)
      case atStart => exact ⟨0, 0, rfl, by omega, by omega, by omega, HT.out⟩
      case round =>
      rename_i wr2
      obtain ⟨k2, hd, rfl, hk2, h0, h1, hst2⟩ := hrel
      have HT2 := Lib.hid hst2; clear hst2 HT
      obtain ⟨d0, d1, d2, d3, d4, d5, d6, d7, d8⟩ := HT2.out.2.2.1.nine
      have df := HT2.out.2.2.1.frozen
      have hz2 := HT2.out.2.2.2.size
      obtain ⟨lc, hbc, hlc⟩ := HT2.out.2.1
      have HC : Hid (BookAt _ w.heap.size (q + 1) lc ∧ lc.length = 1 ∧ lc.map Prod.fst = [exB s U hd]) := ⟨hbc, by simpa using congrArg List.length hlc, hlc⟩
      clear hbc hlc
      obtain rfl | rfl | rfl | rfl | rfl : k2 = 0 ∨ k2 = 1 ∨ k2 = 2 ∨ k2 = 3 ∨ k2 = 4 := by omega
      · go_wp2_with (first
          | (go_at_call 24
             refine (hide_eq (q + 1) w.heap.size lc 0 0 0 0 ⟨#[]⟩ ⟨#[]⟩ none 0 0 [] 1 (s.fr - 1) _ [exB s U hd] 0 false [exB s U hd] (HC.out.1.below (bel1 _ _)) (by simp; omega) (by have := HC.out.2.1; omega) (noLabs _ _) (ex_cap _ _ _ h0) HC.out.2.2 (ex_hide_no (by omega))).mono ?_
             rintro e w5 hr5
             obtain ⟨rfl, hst5⟩ := (HT2.out.below (bel1 _ _)).next hr5
             have HT5 := Lib.hid hst5
             obtain ⟨ld, hbd, hld⟩ := HT5.out.2.1
             have hz5 := HT5.out.2.2.2.size
             have HD : Hid (BookAt w5 w.heap.size (q + 1) ld ∧ ld.length = 1 ∧ ld.map Prod.fst = [exB s U hd]) := ⟨hbd, by simpa using congrArg List.length hld, hld⟩
             clear hst5 hr5 hbd hld)
          | (go_at_call 25
             refine (living_any (q + 1) w.heap.size ld (s.fr - 1) _ HD.out.1 hz5 (by have := HD.out.2.1; omega)).mono ?_
             rintro e w6 ⟨A6, n6, c6, l6, rfl, hm6, ho6, hk6, hb6⟩
             obtain ⟨A6', c6', hv6⟩ := own_form ho6
             have hn6 : n6 = l6.length := by injection hv6
             have hn7 : l6.length = 0 := by have := congrArg List.length hm6; rw [HD.out.2.2, ex_living_no (by omega)] at this; simpa using this
             obtain rfl : n6 = 0 := by omega
             have HT6 : Hid (ExSt w q s U (hd) w6) := HT5.out.below hb6
             clear hm6 ho6 hk6 hb6 hv6 hn6 hn7))
        go_roundw
        case rel => exact ⟨0 + 1, hd, by go_num, by omega, by omega, by omega, HT6.out⟩
        case measure => simp [intOf]
      · go_wp2_with (first
          | (go_at_call 24
             refine (hide_eq (q + 1) w.heap.size lc 0 0 0 0 ⟨#[]⟩ ⟨#[]⟩ none 0 0 [] 1 (s.fr) _ [exB s U hd] 1 true [exB s U (hd + 1)] (HC.out.1.below (bel1 _ _)) (by simp; omega) (by have := HC.out.2.1; omega) (noLabs _ _) (ex_cap _ _ _ h0) HC.out.2.2 (ex_hide_yes (by omega) (by omega) (by omega) (by omega))).mono ?_
             rintro e w5 hr5
             obtain ⟨rfl, hst5⟩ := (HT2.out.below (bel1 _ _)).next hr5
             have HT5 := Lib.hid hst5
             obtain ⟨ld, hbd, hld⟩ := HT5.out.2.1
             have hz5 := HT5.out.2.2.2.size
             have HD : Hid (BookAt w5 w.heap.size (q + 1) ld ∧ ld.length = 1 ∧ ld.map Prod.fst = [exB s U (hd + 1)]) := ⟨hbd, by simpa using congrArg List.length hld, hld⟩
             clear hst5 hr5 hbd hld)
          | (go_at_call 25
             refine (living_any (q + 1) w.heap.size ld (s.fr) _ HD.out.1 hz5 (by have := HD.out.2.1; omega)).mono ?_
             rintro e w6 ⟨A6, n6, c6, l6, rfl, hm6, ho6, hk6, hb6⟩
             obtain ⟨A6', c6', hv6⟩ := own_form ho6
             have hn6 : n6 = l6.length := by injection hv6
             have hn7 : l6.length = 1 := by have := congrArg List.length hm6; rw [HD.out.2.2, ex_living_yes (by omega) (by omega)] at this; simpa using this
             obtain rfl : n6 = 1 := by omega
             have HT6 : Hid (ExSt w q s U (hd + 1) w6) := HT5.out.below hb6
             clear hm6 ho6 hk6 hb6 hv6 hn6 hn7))
        go_roundw
        case rel => exact ⟨1 + 1, hd + 1, by go_num, by omega, by omega, by omega, HT6.out⟩
        case measure => simp [intOf]
      · go_wp2_with (first
          | (go_at_call 24
             refine (hide_eq (q + 1) w.heap.size lc 0 0 0 0 ⟨#[]⟩ ⟨#[]⟩ none 0 0 [] 1 (U - 1) _ [exB s U hd] 1 true [exB s U (hd + 1)] (HC.out.1.below (bel1 _ _)) (by simp; omega) (by have := HC.out.2.1; omega) (noLabs _ _) (ex_cap _ _ _ h0) HC.out.2.2 (ex_hide_yes (by omega) (by omega) (by omega) (by omega))).mono ?_
             rintro e w5 hr5
             obtain ⟨rfl, hst5⟩ := (HT2.out.below (bel1 _ _)).next hr5
             have HT5 := Lib.hid hst5
             obtain ⟨ld, hbd, hld⟩ := HT5.out.2.1
             have hz5 := HT5.out.2.2.2.size
             have HD : Hid (BookAt w5 w.heap.size (q + 1) ld ∧ ld.length = 1 ∧ ld.map Prod.fst = [exB s U (hd + 1)]) := ⟨hbd, by simpa using congrArg List.length hld, hld⟩
             clear hst5 hr5 hbd hld)
          | (go_at_call 25
             refine (living_any (q + 1) w.heap.size ld (U - 1) _ HD.out.1 hz5 (by have := HD.out.2.1; omega)).mono ?_
             rintro e w6 ⟨A6, n6, c6, l6, rfl, hm6, ho6, hk6, hb6⟩
             obtain ⟨A6', c6', hv6⟩ := own_form ho6
             have hn6 : n6 = l6.length := by injection hv6
             have hn7 : l6.length = 1 := by have := congrArg List.length hm6; rw [HD.out.2.2, ex_living_yes (by omega) (by omega)] at this; simpa using this
             obtain rfl : n6 = 1 := by omega
             have HT6 : Hid (ExSt w q s U (hd + 1) w6) := HT5.out.below hb6
             clear hm6 ho6 hk6 hb6 hv6 hn6 hn7))
        go_roundw
        case rel => exact ⟨2 + 1, hd + 1, by go_num, by omega, by omega, by omega, HT6.out⟩
        case measure => simp [intOf]
      · go_wp2_with (first
          | (go_at_call 24
             refine (hide_eq (q + 1) w.heap.size lc 0 0 0 0 ⟨#[]⟩ ⟨#[]⟩ none 0 0 [] 1 (U) _ [exB s U hd] 0 false [exB s U hd] (HC.out.1.below (bel1 _ _)) (by simp; omega) (by have := HC.out.2.1; omega) (noLabs _ _) (ex_cap _ _ _ h0) HC.out.2.2 (ex_hide_no (by omega))).mono ?_
             rintro e w5 hr5
             obtain ⟨rfl, hst5⟩ := (HT2.out.below (bel1 _ _)).next hr5
             have HT5 := Lib.hid hst5
             obtain ⟨ld, hbd, hld⟩ := HT5.out.2.1
             have hz5 := HT5.out.2.2.2.size
             have HD : Hid (BookAt w5 w.heap.size (q + 1) ld ∧ ld.length = 1 ∧ ld.map Prod.fst = [exB s U hd]) := ⟨hbd, by simpa using congrArg List.length hld, hld⟩
             clear hst5 hr5 hbd hld)
          | (go_at_call 25
             refine (living_any (q + 1) w.heap.size ld (U) _ HD.out.1 hz5 (by have := HD.out.2.1; omega)).mono ?_
             rintro e w6 ⟨A6, n6, c6, l6, rfl, hm6, ho6, hk6, hb6⟩
             obtain ⟨A6', c6', hv6⟩ := own_form ho6
             have hn6 : n6 = l6.length := by injection hv6
             have hn7 : l6.length = 0 := by have := congrArg List.length hm6; rw [HD.out.2.2, ex_living_no (by omega)] at this; simpa using this
             obtain rfl : n6 = 0 := by omega
             have HT6 : Hid (ExSt w q s U (hd) w6) := HT5.out.below hb6
             clear hm6 ho6 hk6 hb6 hv6 hn6 hn7))
        go_roundw
        case rel => exact ⟨3 + 1, hd, by go_num, by omega, by omega, by omega, HT6.out⟩
        case measure => simp [intOf]
      · go_wp2_with (go_at_call 15; refine (lives_true _).mono ?_; rintro e w8 ⟨rfl, hb8⟩; have HX8 : Hid (Fr w.heap.size TT w w8) := HT2.out.2.2.2.then_ hb8; clear hb8)
        go_ret
        exact ⟨rfl, HX8.out.to_below⟩
end Go.Proofs.Ytoafpajibeejlaa
