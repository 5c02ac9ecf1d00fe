/- Parse of a fraction. -/
import Derived.Test.YtinbfdfgebiaeaaDoorFt
import Derived.Lib.AtoiAllCases
set_option linter.unusedVariables false
set_option linter.unusedSimpArgs false
namespace Go.Proofs.YtinbfdfgebiaeaaDoor
open Go.RowKit FracM

theorem below_bytes (w : World) (t : ByteArray) : Below w.heap.size w (Lib.bytesWorld w 5 t) := by
  unfold Lib.bytesWorld World.freeze
  rw [if_neg (by decide)]
  refine ⟨rfl, rfl, rfl, by simp, fun k hk => ?_⟩
  simp only
  rw [Array.getElem?_modify, if_neg (by omega)]
  have : (w.drew.alloc (.cells (Lib.bytesCells w 5 t) 5)).heap = w.heap.push (.cells (Lib.bytesCells w 5 t) 5) := rfl
  rw [this, Array.getElem?_push, if_neg (by omega)]
theorem atoi_ok (s : ByteArray) (w : World) {v : Int} (hs : s.size ≤ 1000) (h : Lib.atoiAll s.data.toList = .ok v) :
    Calls Tryd.prog 25 #[.string s] w fun e w' => e = .returned (.tuple #[.int .i64 v, .nilIface]) ∧ Below w.heap.size w w' :=
  (Tryd.strconv_Atoi_ok s (by omega) v h w).mono fun e w' ⟨he, hw⟩ => ⟨he, by
    rcases hw with rfl | ⟨t, rfl⟩
    · exact Below.refl _ _
    · exact below_bytes _ _⟩
def AtoiBad (w : World) (e : Ending) (w' : World) : Prop := ∃ x N, e = .returned (.tuple #[.int .i64 x, .iface 87 (.pointer (some ⟨N, 0, none⟩))]) ∧ Below w.heap.size w w'
theorem atoi_bad (s : ByteArray) (w : World) (hs : s.size ≤ 1000) (h : ∀ v, ¬ Lib.atoiAll s.data.toList = .ok v) (hl : LibW w) :
    Calls Tryd.prog 25 #[.string s] w (AtoiBad w) := by
  obtain ⟨_, ⟨t1, p1, h1⟩, ⟨t2, p2, h2⟩, _⟩ := hl
  cases hc : Lib.atoiAll s.data.toList
  all_goals first
    | exact absurd hc (h _)
    | exact (Any.strconv_Atoi_syntax_var Tryd.laysC172 s (by omega) hc t1 p1 w h1).mono fun e w' ⟨N, he, _, _, hb⟩ => ⟨_, N, he, hb⟩
    | exact (Tryd.strconv_Atoi_range_var s (by omega) hc t2 p2 w h2).mono fun e w' ⟨N, he, _, _, hb⟩ => ⟨_, N, he, hb⟩

def cutL (s : ByteArray) : ByteArray := ⟨(Lib.cut s.data.toList [47]).1.toArray⟩
def cutR (s : ByteArray) : ByteArray := if (Lib.cut s.data.toList [47]).2.2 then ⟨(Lib.cut s.data.toList [47]).2.1.toArray⟩ else ⟨#[49]⟩
def parseF (s : ByteArray) : Int × Int × Int :=
  match Lib.atoiAll (cutL s).data.toList with
  | .ok num => match Lib.atoiAll (cutR s).data.toList with
    | .ok den => if s.toList.isEmpty || (textF num den).toList != s.toList then (0, 0, 2) else (num, den, 0)
    | _ => (0, 0, 2)
  | _ => (0, 0, 2)
theorem parse_bad1 {s : ByteArray} (h : ∀ v, ¬ Lib.atoiAll (cutL s).data.toList = .ok v) : parseF s = (0, 0, 2) := by
  unfold parseF
  cases hc : Lib.atoiAll (cutL s).data.toList <;> first | exact absurd hc (h _) | rfl
theorem parse_bad2 {s : ByteArray} {num : Int} (h1 : Lib.atoiAll (cutL s).data.toList = .ok num) (h : ∀ v, ¬ Lib.atoiAll (cutR s).data.toList = .ok v) : parseF s = (0, 0, 2) := by
  unfold parseF
  rw [h1]
  cases hc : Lib.atoiAll (cutR s).data.toList <;> first | exact absurd hc (h _) | rfl
theorem parse_ok {s : ByteArray} {num den : Int} (h1 : Lib.atoiAll (cutL s).data.toList = .ok num) (h2 : Lib.atoiAll (cutR s).data.toList = .ok den) : parseF s = if s.toList.isEmpty || (textF num den).toList != s.toList then (0, 0, 2) else (num, den, 0) := by
  unfold parseF; rw [h1, h2]
theorem cut_len (l sep : List UInt8) : (Lib.cut l sep).1.length ≤ l.length ∧ (Lib.cut l sep).2.1.length ≤ l.length := by
  unfold Lib.cut; split
  · simp; omega
  · simp
theorem bsz (l : List UInt8) : (⟨l.toArray⟩ : ByteArray).size = l.length := by show l.toArray.size = _; simp
theorem ssz (s : ByteArray) : s.data.toList.length = s.size := by show _ = s.data.size; simp
theorem cutL_size (s : ByteArray) : (cutL s).size ≤ s.size := by
  have := (cut_len s.data.toList [47]).1
  unfold cutL; rw [bsz, ← ssz s]; exact this
theorem cutR_size (s : ByteArray) (h : s.size ≤ 999) : (cutR s).size ≤ 1000 := by
  unfold cutR
  split
  · have := (cut_len s.data.toList [47]).2
    rw [bsz]; rw [ssz] at this; omega
  · decide
theorem cut_any (s : ByteArray) (w : World) (hs : s.size ≤ 999) (hl : LibW w) :
    Calls Tryd.prog 24 #[.string s, .string ⟨#[47]⟩] w fun e w' => (∃ f, e = .returned (.tuple #[.string (cutL s), .string ⟨(Lib.cut s.data.toList [47]).2.1.toArray⟩, .bool f]) ∧ f = (Lib.cut s.data.toList [47]).2.2) ∧ Below w.heap.size w w' := by
  obtain ⟨m, hm⟩ := hl.mx
  exact (Tryd.strings_Cut s ⟨#[47]⟩ m w (by omega) hm).mono fun e w' ⟨he, n, hw⟩ => ⟨⟨_, he, rfl⟩, by subst hw; exact below_drewN _ _⟩

set_option maxHeartbeats 1000000 in
theorem parse_any (s : ByteArray) (w : World) (hs : s.size ≤ 999) (hl : LibW w) :
    Calls Tryd.prog 11 #[.string s] w (RetF (parseF s) w) := by
  have HL := Box.mk hl; clear hl
  have hL : (cutL s).size ≤ 1000 := Nat.le_trans (cutL_size s) (by omega)
  have hR := cutR_size s hs
  by_cases c : (Lib.cut s.data.toList [47]).2.2 = true
  · have HC : Box (cutR s = ⟨(Lib.cut s.data.toList [47]).2.1.toArray⟩) := ⟨by unfold cutR; simp [c]⟩
    have HF := Box.mk c; clear c
    by_cases a1 : ∃ v, Lib.atoiAll (cutL s).data.toList = .ok v
    case neg =>
      have E := Lib.hid (parse_bad1 (s := s) (fun v hv => a1 ⟨v, hv⟩))
      have HA : Box (∀ v, ¬ Lib.atoiAll (cutL s).data.toList = .ok v) := ⟨fun v hv => a1 ⟨v, hv⟩⟩
      clear a1
      go_enter Tryd.func11, Tryd.ntmps11
      go_wp2_with fail
      refine (cut_any s _ hs (HL.out.below (bel1 _ _))).mono ?_
      rintro e w1 ⟨⟨f, rfl, hf⟩, hb1⟩
      obtain rfl : f = true := by rw [hf]; exact HF.out
      have HB1 : Hid (Below w.heap.size w w1 ∧ Blk w1 w.heap.size 24 #[.int .i64 0, .int .i64 0]) := ⟨bthen (bel1 _ _) hb1 (Nat.le_refl _), (Blk.new _ _ _).below hb1⟩
      clear hf hb1
      go_wp2_with fail
      refine (atoi_bad _ _ hL HA.out (HL.out.below HB1.out.1)).mono ?_
      rintro e w2 ⟨x, N, rfl, hb2⟩
      have HB2 : Hid (Below w.heap.size w w2 ∧ Blk w2 w.heap.size 24 #[.int .i64 0, .int .i64 0]) := ⟨bthen HB1.out.1 hb2 (Nat.le_refl _), HB1.out.2.below hb2⟩
      obtain ⟨r0, r1⟩ := HB2.out.2.c2
      have rf := HB2.out.2.frozen
      clear hb2
      go_wp2_with fail
      exact bodyPost_ret (v := .tuple #[.agg #[.int .i64 0, .int .i64 0], .int .i64 2]) (by simp [results, Tryd.results11, go_sem, r0, r1]) rfl (retF E.out rfl (bset2 HB2.out.1 (Nat.le_refl _) _ _))
    obtain ⟨num, a1⟩ := a1
    obtain ⟨nb1, nb2⟩ := Lib.atoiAll_bounds a1
    by_cases a2 : ∃ v, Lib.atoiAll (cutR s).data.toList = .ok v
    case neg =>
      have E := Lib.hid (parse_bad2 a1 (fun v hv => a2 ⟨v, hv⟩))
      have HA1 := Box.mk a1
      have HA : Box (∀ v, ¬ Lib.atoiAll (cutR s).data.toList = .ok v) := ⟨fun v hv => a2 ⟨v, hv⟩⟩
      clear a1 a2
      go_enter Tryd.func11, Tryd.ntmps11
      go_wp2_with fail
      refine (cut_any s _ hs (HL.out.below (bel1 _ _))).mono ?_
      rintro e w1 ⟨⟨f, rfl, hf⟩, hb1⟩
      obtain rfl : f = true := by rw [hf]; exact HF.out
      have HB1 : Hid (Below w.heap.size w w1 ∧ Blk w1 w.heap.size 24 #[.int .i64 0, .int .i64 0]) := ⟨bthen (bel1 _ _) hb1 (Nat.le_refl _), (Blk.new _ _ _).below hb1⟩
      clear hf hb1
      go_wp2_with fail
      refine (atoi_ok _ _ hL HA1.out).mono ?_
      rintro e w2 ⟨rfl, hb2⟩
      have HB2 : Hid (Below w.heap.size w w2 ∧ Blk w2 w.heap.size 24 #[.int .i64 0, .int .i64 0]) := ⟨bthen HB1.out.1 hb2 (Nat.le_refl _), HB1.out.2.below hb2⟩
      clear hb2
      go_wp2_with fail
      rw [← HC.out]
      refine (atoi_bad _ _ hR HA.out (HL.out.below HB2.out.1)).mono ?_
      rintro e w3 ⟨x, N, rfl, hb3⟩
      have HB3 : Hid (Below w.heap.size w w3 ∧ Blk w3 w.heap.size 24 #[.int .i64 0, .int .i64 0]) := ⟨bthen HB2.out.1 hb3 (Nat.le_refl _), HB2.out.2.below hb3⟩
      obtain ⟨r0, r1⟩ := HB3.out.2.c2
      have rf := HB3.out.2.frozen
      clear hb3
      go_wp2_with fail
      exact bodyPost_ret (v := .tuple #[.agg #[.int .i64 0, .int .i64 0], .int .i64 2]) (by simp [results, Tryd.results11, go_sem, r0, r1]) rfl (retF E.out rfl (bset2 HB3.out.1 (Nat.le_refl _) _ _))
    obtain ⟨den, a2⟩ := a2
    obtain ⟨db1, db2⟩ := Lib.atoiAll_bounds a2
    have EP := parse_ok a1 a2
    have HA1 := Box.mk a1; have HA2 := Box.mk a2
    clear a1 a2
    by_cases e0 : s.toList.isEmpty = true
    case pos =>
      have E : Hid (parseF s = (0, 0, 2)) := by show _ = _; rw [EP]; simp [e0]
      clear EP
      go_enter Tryd.func11, Tryd.ntmps11
      go_wp2_with fail
      refine (cut_any s _ hs (HL.out.below (bel1 _ _))).mono ?_
      rintro e w1 ⟨⟨f, rfl, hf⟩, hb1⟩
      obtain rfl : f = true := by rw [hf]; exact HF.out
      have HB1 : Hid (Below w.heap.size w w1 ∧ Blk w1 w.heap.size 24 #[.int .i64 0, .int .i64 0]) := ⟨bthen (bel1 _ _) hb1 (Nat.le_refl _), (Blk.new _ _ _).below hb1⟩
      clear hf hb1
      go_wp2_with fail
      refine (atoi_ok _ _ hL HA1.out).mono ?_
      rintro e w2 ⟨rfl, hb2⟩
      have HB2 : Hid (Below w.heap.size w w2 ∧ Blk w2 w.heap.size 24 #[.int .i64 0, .int .i64 0]) := ⟨bthen HB1.out.1 hb2 (Nat.le_refl _), HB1.out.2.below hb2⟩
      clear hb2
      go_wp2_with fail
      rw [← HC.out]
      refine (atoi_ok _ _ hR HA2.out).mono ?_
      rintro e w3 ⟨rfl, hb3⟩
      have HB3 : Hid (Below w.heap.size w w3 ∧ Blk w3 w.heap.size 24 #[.int .i64 0, .int .i64 0]) := ⟨bthen HB2.out.1 hb3 (Nat.le_refl _), HB2.out.2.below hb3⟩
      obtain ⟨r0, r1⟩ := HB3.out.2.c2
      have rf := HB3.out.2.frozen
      have hz := HB3.out.2.lt
      have hn1 : ¬ w.heap.size = w3.heap.size := by omega
      have hn2 : ¬ w3.heap.size = w.heap.size := by omega
      clear hb3
      go_wp2_with fail
      exact bodyPost_ret (v := .tuple #[.agg #[.int .i64 0, .int .i64 0], .int .i64 2]) (by simp [results, Tryd.results11, go_sem, r0, r1, rf, hz, hn1, hn2]) rfl (retF E.out rfl ((bset2 HB3.out.1 (Nat.le_refl _) _ _).alloc (by simp [World.setCell]; omega) _))
    have e0' : s.toList.isEmpty = false := by simpa using e0
    clear e0
    by_cases e1 : ((textF num den).toList != s.toList) = true
    case pos =>
      have E : Hid (parseF s = (0, 0, 2)) := by show _ = _; rw [EP, if_pos (by rw [e0', e1]; simp)]
      clear EP
      go_enter Tryd.func11, Tryd.ntmps11
      go_wp2_with fail
      refine (cut_any s _ hs (HL.out.below (bel1 _ _))).mono ?_
      rintro e w1 ⟨⟨f, rfl, hf⟩, hb1⟩
      obtain rfl : f = true := by rw [hf]; exact HF.out
      have HB1 : Hid (Below w.heap.size w w1 ∧ Blk w1 w.heap.size 24 #[.int .i64 0, .int .i64 0]) := ⟨bthen (bel1 _ _) hb1 (Nat.le_refl _), (Blk.new _ _ _).below hb1⟩
      clear hf hb1
      go_wp2_with fail
      refine (atoi_ok _ _ hL HA1.out).mono ?_
      rintro e w2 ⟨rfl, hb2⟩
      have HB2 : Hid (Below w.heap.size w w2 ∧ Blk w2 w.heap.size 24 #[.int .i64 0, .int .i64 0]) := ⟨bthen HB1.out.1 hb2 (Nat.le_refl _), HB1.out.2.below hb2⟩
      clear hb2
      go_wp2_with fail
      rw [← HC.out]
      refine (atoi_ok _ _ hR HA2.out).mono ?_
      rintro e w3 ⟨rfl, hb3⟩
      have HB3 : Hid (Below w.heap.size w w3 ∧ Blk w3 w.heap.size 24 #[.int .i64 0, .int .i64 0]) := ⟨bthen HB2.out.1 hb3 (Nat.le_refl _), HB2.out.2.below hb3⟩
      have hz := HB3.out.2.lt
      clear hb3
      go_wp2_with fail
      refine (text_any num den _ nb1 nb2 db1 db2 (HL.out.below (HB3.out.1.alloc (by omega) _))).mono ?_
      rintro e w4 ⟨rfl, hb4⟩
      have HB4 : Hid (Below w.heap.size w w4 ∧ Blk w4 w.heap.size 24 #[.int .i64 0, .int .i64 0] ∧ Blk w4 w3.heap.size 24 #[.int .i64 num, .int .i64 den]) := ⟨bthen (HB3.out.1.alloc (by omega) _) hb4 (Nat.le_refl _), (HB3.out.2.alloc _).below hb4, (Blk.new _ _ _).below hb4⟩
      obtain ⟨r0, r1⟩ := HB4.out.2.1.c2
      have rf := HB4.out.2.1.frozen
      obtain ⟨t0, t1⟩ := HB4.out.2.2.c2
      clear hb4
      generalize textF num den = T at *
      have e2 : (T.toList == s.toList) = false := by simpa using e1
      go_wp2_with fail
      exact bodyPost_ret (v := .tuple #[.agg #[.int .i64 0, .int .i64 0], .int .i64 2]) (by simp [results, Tryd.results11, go_sem, r0, r1]) rfl (retF E.out rfl (bset2 HB4.out.1 (Nat.le_refl _) _ _))
    replace e1 : ((textF num den).toList != s.toList) = false := by simpa using e1
    have E : Hid (parseF s = (num, den, 0)) := by show _ = _; rw [EP, if_neg (by rw [e0', e1]; simp)]
    clear EP
    go_enter Tryd.func11, Tryd.ntmps11
    go_wp2_with fail
    refine (cut_any s _ hs (HL.out.below (bel1 _ _))).mono ?_
    rintro e w1 ⟨⟨f, rfl, hf⟩, hb1⟩
    obtain rfl : f = true := by rw [hf]; exact HF.out
    have HB1 : Hid (Below w.heap.size w w1 ∧ Blk w1 w.heap.size 24 #[.int .i64 0, .int .i64 0]) := ⟨bthen (bel1 _ _) hb1 (Nat.le_refl _), (Blk.new _ _ _).below hb1⟩
    clear hf hb1
    go_wp2_with fail
    refine (atoi_ok _ _ hL HA1.out).mono ?_
    rintro e w2 ⟨rfl, hb2⟩
    have HB2 : Hid (Below w.heap.size w w2 ∧ Blk w2 w.heap.size 24 #[.int .i64 0, .int .i64 0]) := ⟨bthen HB1.out.1 hb2 (Nat.le_refl _), HB1.out.2.below hb2⟩
    clear hb2
    go_wp2_with fail
    rw [← HC.out]
    refine (atoi_ok _ _ hR HA2.out).mono ?_
    rintro e w3 ⟨rfl, hb3⟩
    have HB3 : Hid (Below w.heap.size w w3 ∧ Blk w3 w.heap.size 24 #[.int .i64 0, .int .i64 0]) := ⟨bthen HB2.out.1 hb3 (Nat.le_refl _), HB2.out.2.below hb3⟩
    have hz := HB3.out.2.lt
    clear hb3
    go_wp2_with fail
    refine (text_any num den _ nb1 nb2 db1 db2 (HL.out.below (HB3.out.1.alloc (by omega) _))).mono ?_
    rintro e w4 ⟨rfl, hb4⟩
    have HB4 : Hid (Below w.heap.size w w4 ∧ Blk w4 w.heap.size 24 #[.int .i64 0, .int .i64 0] ∧ Blk w4 w3.heap.size 24 #[.int .i64 num, .int .i64 den]) := ⟨bthen (HB3.out.1.alloc (by omega) _) hb4 (Nat.le_refl _), (HB3.out.2.alloc _).below hb4, (Blk.new _ _ _).below hb4⟩
    obtain ⟨r0, r1⟩ := HB4.out.2.1.c2
    have rf := HB4.out.2.1.frozen
    obtain ⟨t0, t1⟩ := HB4.out.2.2.c2
    clear hb4
    generalize textF num den = T at *
    have e2 : (T.toList == s.toList) = true := by simpa using e1
    go_wp2_with fail
    exact bodyPost_ret (v := .tuple #[.agg #[.int .i64 num, .int .i64 den], .int .i64 0]) (by simp [results, Tryd.results11, go_sem, r0, r1]) rfl (retF E.out rfl (bset2 HB4.out.1 (Nat.le_refl _) _ _))
  · replace c : (Lib.cut s.data.toList [47]).2.2 = false := by simpa using c
    have HC : Box (cutR s = ⟨#[49]⟩) := ⟨by unfold cutR; simp [c]⟩
    have HF := Box.mk c; clear c
    by_cases a1 : ∃ v, Lib.atoiAll (cutL s).data.toList = .ok v
    case neg =>
      have E := Lib.hid (parse_bad1 (s := s) (fun v hv => a1 ⟨v, hv⟩))
      have HA : Box (∀ v, ¬ Lib.atoiAll (cutL s).data.toList = .ok v) := ⟨fun v hv => a1 ⟨v, hv⟩⟩
      clear a1
      go_enter Tryd.func11, Tryd.ntmps11
      go_wp2_with fail
      refine (cut_any s _ hs (HL.out.below (bel1 _ _))).mono ?_
      rintro e w1 ⟨⟨f, rfl, hf⟩, hb1⟩
      obtain rfl : f = false := by rw [hf]; exact HF.out
      have HB1 : Hid (Below w.heap.size w w1 ∧ Blk w1 w.heap.size 24 #[.int .i64 0, .int .i64 0]) := ⟨bthen (bel1 _ _) hb1 (Nat.le_refl _), (Blk.new _ _ _).below hb1⟩
      clear hf hb1
      go_wp2_with fail
      refine (atoi_bad _ _ hL HA.out (HL.out.below HB1.out.1)).mono ?_
      rintro e w2 ⟨x, N, rfl, hb2⟩
      have HB2 : Hid (Below w.heap.size w w2 ∧ Blk w2 w.heap.size 24 #[.int .i64 0, .int .i64 0]) := ⟨bthen HB1.out.1 hb2 (Nat.le_refl _), HB1.out.2.below hb2⟩
      obtain ⟨r0, r1⟩ := HB2.out.2.c2
      have rf := HB2.out.2.frozen
      clear hb2
      go_wp2_with fail
      exact bodyPost_ret (v := .tuple #[.agg #[.int .i64 0, .int .i64 0], .int .i64 2]) (by simp [results, Tryd.results11, go_sem, r0, r1]) rfl (retF E.out rfl (bset2 HB2.out.1 (Nat.le_refl _) _ _))
    obtain ⟨num, a1⟩ := a1
    obtain ⟨nb1, nb2⟩ := Lib.atoiAll_bounds a1
    by_cases a2 : ∃ v, Lib.atoiAll (cutR s).data.toList = .ok v
    case neg =>
      have E := Lib.hid (parse_bad2 a1 (fun v hv => a2 ⟨v, hv⟩))
      have HA1 := Box.mk a1
      have HA : Box (∀ v, ¬ Lib.atoiAll (cutR s).data.toList = .ok v) := ⟨fun v hv => a2 ⟨v, hv⟩⟩
      clear a1 a2
      go_enter Tryd.func11, Tryd.ntmps11
      go_wp2_with fail
      refine (cut_any s _ hs (HL.out.below (bel1 _ _))).mono ?_
      rintro e w1 ⟨⟨f, rfl, hf⟩, hb1⟩
      obtain rfl : f = false := by rw [hf]; exact HF.out
      have HB1 : Hid (Below w.heap.size w w1 ∧ Blk w1 w.heap.size 24 #[.int .i64 0, .int .i64 0]) := ⟨bthen (bel1 _ _) hb1 (Nat.le_refl _), (Blk.new _ _ _).below hb1⟩
      clear hf hb1
      go_wp2_with fail
      refine (atoi_ok _ _ hL HA1.out).mono ?_
      rintro e w2 ⟨rfl, hb2⟩
      have HB2 : Hid (Below w.heap.size w w2 ∧ Blk w2 w.heap.size 24 #[.int .i64 0, .int .i64 0]) := ⟨bthen HB1.out.1 hb2 (Nat.le_refl _), HB1.out.2.below hb2⟩
      clear hb2
      go_wp2_with fail
      rw [← HC.out]
      refine (atoi_bad _ _ hR HA.out (HL.out.below HB2.out.1)).mono ?_
      rintro e w3 ⟨x, N, rfl, hb3⟩
      have HB3 : Hid (Below w.heap.size w w3 ∧ Blk w3 w.heap.size 24 #[.int .i64 0, .int .i64 0]) := ⟨bthen HB2.out.1 hb3 (Nat.le_refl _), HB2.out.2.below hb3⟩
      obtain ⟨r0, r1⟩ := HB3.out.2.c2
      have rf := HB3.out.2.frozen
      clear hb3
      go_wp2_with fail
      exact bodyPost_ret (v := .tuple #[.agg #[.int .i64 0, .int .i64 0], .int .i64 2]) (by simp [results, Tryd.results11, go_sem, r0, r1]) rfl (retF E.out rfl (bset2 HB3.out.1 (Nat.le_refl _) _ _))
    obtain ⟨den, a2⟩ := a2
    obtain ⟨db1, db2⟩ := Lib.atoiAll_bounds a2
    have EP := parse_ok a1 a2
    have HA1 := Box.mk a1; have HA2 := Box.mk a2
    clear a1 a2
    by_cases e0 : s.toList.isEmpty = true
    case pos =>
      have E : Hid (parseF s = (0, 0, 2)) := by show _ = _; rw [EP]; simp [e0]
      clear EP
      go_enter Tryd.func11, Tryd.ntmps11
      go_wp2_with fail
      refine (cut_any s _ hs (HL.out.below (bel1 _ _))).mono ?_
      rintro e w1 ⟨⟨f, rfl, hf⟩, hb1⟩
      obtain rfl : f = false := by rw [hf]; exact HF.out
      have HB1 : Hid (Below w.heap.size w w1 ∧ Blk w1 w.heap.size 24 #[.int .i64 0, .int .i64 0]) := ⟨bthen (bel1 _ _) hb1 (Nat.le_refl _), (Blk.new _ _ _).below hb1⟩
      clear hf hb1
      go_wp2_with fail
      refine (atoi_ok _ _ hL HA1.out).mono ?_
      rintro e w2 ⟨rfl, hb2⟩
      have HB2 : Hid (Below w.heap.size w w2 ∧ Blk w2 w.heap.size 24 #[.int .i64 0, .int .i64 0]) := ⟨bthen HB1.out.1 hb2 (Nat.le_refl _), HB1.out.2.below hb2⟩
      clear hb2
      go_wp2_with fail
      rw [← HC.out]
      refine (atoi_ok _ _ hR HA2.out).mono ?_
      rintro e w3 ⟨rfl, hb3⟩
      have HB3 : Hid (Below w.heap.size w w3 ∧ Blk w3 w.heap.size 24 #[.int .i64 0, .int .i64 0]) := ⟨bthen HB2.out.1 hb3 (Nat.le_refl _), HB2.out.2.below hb3⟩
      obtain ⟨r0, r1⟩ := HB3.out.2.c2
      have rf := HB3.out.2.frozen
      have hz := HB3.out.2.lt
      have hn1 : ¬ w.heap.size = w3.heap.size := by omega
      have hn2 : ¬ w3.heap.size = w.heap.size := by omega
      clear hb3
      go_wp2_with fail
      exact bodyPost_ret (v := .tuple #[.agg #[.int .i64 0, .int .i64 0], .int .i64 2]) (by simp [results, Tryd.results11, go_sem, r0, r1, rf, hz, hn1, hn2]) rfl (retF E.out rfl ((bset2 HB3.out.1 (Nat.le_refl _) _ _).alloc (by simp [World.setCell]; omega) _))
    have e0' : s.toList.isEmpty = false := by simpa using e0
    clear e0
    by_cases e1 : ((textF num den).toList != s.toList) = true
    case pos =>
      have E : Hid (parseF s = (0, 0, 2)) := by show _ = _; rw [EP, if_pos (by rw [e0', e1]; simp)]
      clear EP
      go_enter Tryd.func11, Tryd.ntmps11
      go_wp2_with fail
      refine (cut_any s _ hs (HL.out.below (bel1 _ _))).mono ?_
      rintro e w1 ⟨⟨f, rfl, hf⟩, hb1⟩
      obtain rfl : f = false := by rw [hf]; exact HF.out
      have HB1 : Hid (Below w.heap.size w w1 ∧ Blk w1 w.heap.size 24 #[.int .i64 0, .int .i64 0]) := ⟨bthen (bel1 _ _) hb1 (Nat.le_refl _), (Blk.new _ _ _).below hb1⟩
      clear hf hb1
      go_wp2_with fail
      refine (atoi_ok _ _ hL HA1.out).mono ?_
      rintro e w2 ⟨rfl, hb2⟩
      have HB2 : Hid (Below w.heap.size w w2 ∧ Blk w2 w.heap.size 24 #[.int .i64 0, .int .i64 0]) := ⟨bthen HB1.out.1 hb2 (Nat.le_refl _), HB1.out.2.below hb2⟩
      clear hb2
      go_wp2_with fail
      rw [← HC.out]
      refine (atoi_ok _ _ hR HA2.out).mono ?_
      rintro e w3 ⟨rfl, hb3⟩
      have HB3 : Hid (Below w.heap.size w w3 ∧ Blk w3 w.heap.size 24 #[.int .i64 0, .int .i64 0]) := ⟨bthen HB2.out.1 hb3 (Nat.le_refl _), HB2.out.2.below hb3⟩
      have hz := HB3.out.2.lt
      clear hb3
      go_wp2_with fail
      refine (text_any num den _ nb1 nb2 db1 db2 (HL.out.below (HB3.out.1.alloc (by omega) _))).mono ?_
      rintro e w4 ⟨rfl, hb4⟩
      have HB4 : Hid (Below w.heap.size w w4 ∧ Blk w4 w.heap.size 24 #[.int .i64 0, .int .i64 0] ∧ Blk w4 w3.heap.size 24 #[.int .i64 num, .int .i64 den]) := ⟨bthen (HB3.out.1.alloc (by omega) _) hb4 (Nat.le_refl _), (HB3.out.2.alloc _).below hb4, (Blk.new _ _ _).below hb4⟩
      obtain ⟨r0, r1⟩ := HB4.out.2.1.c2
      have rf := HB4.out.2.1.frozen
      obtain ⟨t0, t1⟩ := HB4.out.2.2.c2
      clear hb4
      generalize textF num den = T at *
      have e2 : (T.toList == s.toList) = false := by simpa using e1
      go_wp2_with fail
      exact bodyPost_ret (v := .tuple #[.agg #[.int .i64 0, .int .i64 0], .int .i64 2]) (by simp [results, Tryd.results11, go_sem, r0, r1]) rfl (retF E.out rfl (bset2 HB4.out.1 (Nat.le_refl _) _ _))
    replace e1 : ((textF num den).toList != s.toList) = false := by simpa using e1
    have E : Hid (parseF s = (num, den, 0)) := by show _ = _; rw [EP, if_neg (by rw [e0', e1]; simp)]
    clear EP
    go_enter Tryd.func11, Tryd.ntmps11
    go_wp2_with fail
    refine (cut_any s _ hs (HL.out.below (bel1 _ _))).mono ?_
    rintro e w1 ⟨⟨f, rfl, hf⟩, hb1⟩
    obtain rfl : f = false := by rw [hf]; exact HF.out
    have HB1 : Hid (Below w.heap.size w w1 ∧ Blk w1 w.heap.size 24 #[.int .i64 0, .int .i64 0]) := ⟨bthen (bel1 _ _) hb1 (Nat.le_refl _), (Blk.new _ _ _).below hb1⟩
    clear hf hb1
    go_wp2_with fail
    refine (atoi_ok _ _ hL HA1.out).mono ?_
    rintro e w2 ⟨rfl, hb2⟩
    have HB2 : Hid (Below w.heap.size w w2 ∧ Blk w2 w.heap.size 24 #[.int .i64 0, .int .i64 0]) := ⟨bthen HB1.out.1 hb2 (Nat.le_refl _), HB1.out.2.below hb2⟩
    clear hb2
    go_wp2_with fail
    rw [← HC.out]
    refine (atoi_ok _ _ hR HA2.out).mono ?_
    rintro e w3 ⟨rfl, hb3⟩
    have HB3 : Hid (Below w.heap.size w w3 ∧ Blk w3 w.heap.size 24 #[.int .i64 0, .int .i64 0]) := ⟨bthen HB2.out.1 hb3 (Nat.le_refl _), HB2.out.2.below hb3⟩
    have hz := HB3.out.2.lt
    clear hb3
    go_wp2_with fail
    refine (text_any num den _ nb1 nb2 db1 db2 (HL.out.below (HB3.out.1.alloc (by omega) _))).mono ?_
    rintro e w4 ⟨rfl, hb4⟩
    have HB4 : Hid (Below w.heap.size w w4 ∧ Blk w4 w.heap.size 24 #[.int .i64 0, .int .i64 0] ∧ Blk w4 w3.heap.size 24 #[.int .i64 num, .int .i64 den]) := ⟨bthen (HB3.out.1.alloc (by omega) _) hb4 (Nat.le_refl _), (HB3.out.2.alloc _).below hb4, (Blk.new _ _ _).below hb4⟩
    obtain ⟨r0, r1⟩ := HB4.out.2.1.c2
    have rf := HB4.out.2.1.frozen
    obtain ⟨t0, t1⟩ := HB4.out.2.2.c2
    clear hb4
    generalize textF num den = T at *
    have e2 : (T.toList == s.toList) = true := by simpa using e1
    go_wp2_with fail
    exact bodyPost_ret (v := .tuple #[.agg #[.int .i64 num, .int .i64 den], .int .i64 0]) (by simp [results, Tryd.results11, go_sem, r0, r1]) rfl (retF E.out rfl (bset2 HB4.out.1 (Nat.le_refl _) _ _))
end Go.Proofs.YtinbfdfgebiaeaaDoor
