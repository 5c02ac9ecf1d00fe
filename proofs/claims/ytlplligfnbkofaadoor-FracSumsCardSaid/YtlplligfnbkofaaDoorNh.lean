/- over of the reference. -/
import Derived.Test.YtlplligfnbkofaaDoorNg
set_option linter.unusedVariables false
set_option linter.unusedSimpArgs false
namespace Go.Proofs.YtlplligfnbkofaaDoor
open Go.RowKit DigM

/-- the memory of over -/
structure Om (w W : World) (a b s : Nat) : Prop where
  below : Below w.heap.size w W
  A : D8 W w.heap.size (dg a)
  B : D8 W (w.heap.size + 1) (dg b)
  S : D8 W (w.heap.size + 1 + 1) (dg s)
  ha : a < 4294967296 ^ 8
  hs : s < 4294967296 ^ 8
theorem Om.next {w W W' : World} {a b s : Nat} (h : Om w W a b s) (hb : Below W.heap.size W W') : Om w W' a b s :=
  ⟨bthen h.below hb (Nat.le_refl _), h.A.below hb, h.B.below hb, h.S.below hb, h.ha, h.hs⟩
theorem Om.setA {w W : World} {a b s : Nat} (h : Om w W a b s) {c : Nat} (hc : c < 4294967296 ^ 8) : Om w (put8 W w.heap.size (dg c)) c b s :=
  ⟨put8_below h.below (Nat.le_refl _) _, h.A.put _, h.B.putFar (by omega) _, h.S.putFar (by omega) _, hc, h.hs⟩
theorem Om.setS {w W : World} {a b s : Nat} (h : Om w W a b s) {c : Nat} (hc : c < 4294967296 ^ 8) : Om w (put8 W (w.heap.size + 1 + 1) (dg c)) a b c :=
  ⟨put8_below h.below (by omega) _, h.A.putFar (by omega) _, h.B.putFar (by omega) _, h.S.put _, h.ha, hc⟩
theorem Om.frA {w W : World} {a b s : Nat} (h : Om w W a b s) : ∀ o, W.frozen? ⟨w.heap.size, o, none⟩ = false := Blk.frozen h.A
theorem Om.frS {w W : World} {a b s : Nat} (h : Om w W a b s) : ∀ o, W.frozen? ⟨w.heap.size + 1 + 1, o, none⟩ = false := Blk.frozen h.S
/-- a / b, if it is a word -/
def overN (a b : Nat) : Nat × Bool := if a / b < 18446744073709551616 then (a / b, true) else (0, false)
def ORel1 (a b : Nat) (w : World) (v : Value) (wr : World) : Prop :=
  ∃ k : Nat, k ≤ 65 ∧ v = .int .i64 (k : Nat) ∧ Om w wr a b (b * 2 ^ k) ∧ (k = 0 ∨ b * 2 ^ (k - 1) ≤ a)
def ORel2 (a b k : Nat) (w : World) (u v : Value) (wr : World) : Prop :=
  ∃ i n rem : Nat, u = .int .u64 (n : Nat) ∧ v = .int .i64 (i : Nat) ∧ Om w wr rem b (b * 2 ^ (k - i)) ∧ Ov a b k i n rem
theorem dbl (b k : Nat) : b * 2 ^ k + b * 2 ^ k = b * 2 ^ (k + 1) := by rw [Nat.pow_succ]; grind
theorem seven {x : Nat} (h : x < 4294967296 ^ 7) : x + x < 4294967296 ^ 8 := by
  have : (4294967296 : Nat) ^ 7 + 4294967296 ^ 7 ≤ 4294967296 ^ 8 := by decide
  omega
theorem seven8 {x : Nat} (h : x < 4294967296 ^ 7) : x < 4294967296 ^ 8 := by have := seven h; omega
theorem two_pow_le {n i : Nat} (h : n < 2 ^ i) (hi : i < 64) : n < 9223372036854775808 := Nat.lt_of_lt_of_le h (by
  have : 2 ^ i ≤ 2 ^ 63 := Nat.pow_le_pow_right (by omega) (by omega)
  omega)
theorem lessN_le {a b : Nat} (h : a ≤ b) : lessN a b ≤ 0 ∧ -1 ≤ lessN a b := by unfold lessN; split <;> (try split) <;> omega
theorem lessN_gt {a b : Nat} (h : b < a) : lessN a b = 1 := by unfold lessN; rw [if_neg (by omega), if_pos h]
def RetO (a b : Nat) (w : World) (e : Ending) (w' : World) : Prop := e = .returned (.tuple #[.int .u64 ((overN a b).1 : Nat), .bool (overN a b).2]) ∧ Below w.heap.size w w'
theorem retO_no {a b : Nat} {w w' : World} (hb : 0 < b) (h : b * 2 ^ 64 ≤ a) (hB : Below w.heap.size w w') : RetO a b w (.returned (.tuple #[.int .u64 0, .bool false])) w' := by
  have : overN a b = (0, false) := by unfold overN; rw [if_neg (by have := ov_far hb h; omega)]
  exact ⟨by rw [this]; rfl, hB⟩
theorem retO_yes {a b k n rem : Nat} {w w' : World} (hb : 0 < b) (h : a < b * 2 ^ k) (hk : k ≤ 64) (ho : Ov a b k k n rem) (hB : Below w.heap.size w w') : RetO a b w (.returned (.tuple #[.int .u64 (n : Nat), .bool true])) w' := by
  have : overN a b = (n, true) := by unfold overN; rw [if_pos (ov_near hb h hk), ho.done]
  exact ⟨by rw [this], hB⟩

set_option maxHeartbeats 4000000 in
set_option maxRecDepth 100000 in
theorem over_any (a b : Nat) (w : World) (ha : a < 4294967296 ^ 7) (hb : b < 4294967296 ^ 8) (h0 : 0 < b) : Calls Tryd.prog 75 #[nv a, nv b] w (RetO a b w) := by
  have HA := Box.mk ha; have HB := Box.mk hb; clear ha hb
  go_enter Tryd.func75, Tryd.ntmps75
  go_wp2_with fail
  go_loopw [7] (fun v wr => ORel1 a b w v wr) (fun v _ => (65 - intOf v).toNat)
  case atStart => exact ⟨0, by omega, rfl, ⟨bel3 _ _ _ _, ((Blk.new _ _ _).alloc _).alloc _, (Blk.newAt _ _ (by simp)).alloc _, D8.congr (f := dg b) (Blk.newAt _ _ (by simp)) (fun j _ => by simp), seven8 HA.out, by simpa using HB.out⟩, .inl rfl⟩
  case round =>
    obtain ⟨k, hk, rfl, hM, hor⟩ := hrel
    have HM := Lib.hid hM; have HO := Box.mk hor; clear hM hor
    obtain ⟨a0, a1, a2, a3, a4, a5, a6, a7⟩ := HM.out.A.cells
    obtain ⟨s0, s1, s2, s3, s4, s5, s6, s7⟩ := HM.out.S.cells
    go_wp2_with fail
    refine (less_any _ _ _ HM.out.hs HM.out.ha).mono ?_
    rintro e w6 ⟨rfl, hb6⟩
    have HM2 := Lib.hid (HM.out.next hb6); clear HM hb6 a0 a1 a2 a3 a4 a5 a6 a7 s0 s1 s2 s3 s4 s5 s6 s7
    have HM := Lib.hid HM2.out; clear HM2
    by_cases hle : b * 2 ^ k ≤ a
    · obtain ⟨c, hc⟩ : ∃ c, lessN (b * 2 ^ k) a = c := ⟨_, rfl⟩
      have hcb := lessN_le hle
      rw [hc] at hcb ⊢
      clear hc
      have HLE := Box.mk hle; clear hle
      by_cases hk65 : k = 65
      · subst hk65
        have HF : Box (b * 2 ^ 64 ≤ a) := ⟨by rcases HO.out with h | h; cases h; exact h⟩
        go_wp2_with fail
        exact bodyPost_ret (v := .tuple #[.int .u64 0, .bool false]) (by simp [results, Tryd.results75, go_sem]) rfl (retO_no h0 HF.out HM.out.below)
      · have hk2 : k < 65 := by omega
        have hk3 : (k : Int) < 65 := by omega
        have HL : Box (b * 2 ^ (k + 1) < 4294967296 ^ 8) := ⟨by rw [← dbl]; have := seven HA.out; have := HLE.out; omega⟩
        obtain ⟨s0, s1, s2, s3, s4, s5, s6, s7⟩ := HM.out.S.cells
        go_wp2_with fail
        refine (plus_any _ _ _).mono ?_
        rintro e w7 ⟨rfl, hb7⟩
        rw [dbl]
        have HM2 := Lib.hid (HM.out.next hb7); clear HM hb7 s0 s1 s2 s3 s4 s5 s6 s7
        have HM := Lib.hid (HM2.out.setS HL.out)
        obtain ⟨s0, s1, s2, s3, s4, s5, s6, s7⟩ := HM2.out.S.cells; have fs := HM2.out.frS
        go_wp2_with fail
        go_roundw
        case rel => exact ⟨k + 1, by omega, rfl, HM.out, .inr HLE.out⟩
        case measure => simp [intOf]; omega
    · rw [lessN_gt (by omega)]
      have HLT : Box (a < b * 2 ^ k) := ⟨by omega⟩
      clear hle
      by_cases hk65 : k = 65
      · subst hk65
        have HF : Box (b * 2 ^ 64 ≤ a) := ⟨by rcases HO.out with h | h; cases h; exact h⟩
        go_wp2_with fail
        exact bodyPost_ret (v := .tuple #[.int .u64 0, .bool false]) (by simp [results, Tryd.results75, go_sem]) rfl (retO_no h0 HF.out HM.out.below)
      · have hk2 : k ≤ 64 := by omega
        have hk3 : (k : Int) ≤ 64 := by omega
        clear hk65 HO
        go_wp2_with fail
        go_loopw [8, 9] (fun u v wr => ORel2 a b k w u v wr) (fun _ v _ => (k - intOf v).toNat)
        case atStart => exact ⟨0, 0, a, rfl, rfl, HM.out, Ov.start HLT.out⟩
        case round =>
          clear HM
          obtain ⟨i, n, rem, rfl, rfl, hM, hov⟩ := hrel
          have HM := Lib.hid hM; have HOV := Box.mk hov; clear hM hov
          have hik := HOV.out.le
          by_cases hie : i = k
          · subst hie
            go_wp2_with fail
            exact bodyPost_ret (v := .tuple #[.int .u64 (n : Nat), .bool true]) (by simp [results, Tryd.results75, go_sem]) rfl (retO_yes h0 HLT.out hk2 HOV.out HM.out.below)
          · have hlt : i < k := by omega
            have hlt2 : (i : Int) < k := by omega
            have hn : n < 9223372036854775808 := two_pow_le HOV.out.n_lt (by omega)
            have hn2 : (n : Int) < 9223372036854775808 := by omega
            have HH : Box (b * 2 ^ (k - i) / 2 = b * 2 ^ (k - (i + 1))) := ⟨by rw [ov_half hlt]; omega⟩
            have HHL : Box (b * 2 ^ (k - (i + 1)) < 4294967296 ^ 8) := ⟨by rw [← HH.out]; exact half_lt HM.out.hs⟩
            clear hie
            obtain ⟨s0, s1, s2, s3, s4, s5, s6, s7⟩ := HM.out.S.cells
            go_wp2_with fail
            refine (half_any _ _ HM.out.hs).mono ?_
            rintro e w7 ⟨rfl, hb7⟩
            rw [HH.out]
            have HM2 := Lib.hid (HM.out.next hb7); clear HM hb7 s0 s1 s2 s3 s4 s5 s6 s7
            have HM := Lib.hid (HM2.out.setS HHL.out)
            obtain ⟨s0, s1, s2, s3, s4, s5, s6, s7⟩ := HM2.out.S.cells; have fs := HM2.out.frS
            generalize hst : b * 2 ^ (k - (i + 1)) = st at *
            have HST := Box.mk hst; clear hst
            go_upto_region 13 with (fail)
            show Code.wp _ _ _ _ (put8 w7 (w.heap.size + 1 + 1) (dg st))
            generalize put8 w7 (w.heap.size + 1 + 1) (dg st) = W7 at HM ⊢
            clear HM2 s0 s1 s2 s3 s4 s5 s6 s7 fs
            obtain ⟨a0, a1, a2, a3, a4, a5, a6, a7⟩ := HM.out.A.cells
            obtain ⟨s0, s1, s2, s3, s4, s5, s6, s7⟩ := HM.out.S.cells
            go_wp2_with fail
            refine (less_any _ _ _ HM.out.hs HM.out.ha).mono ?_
            rintro e w8 ⟨rfl, hb8⟩
            have HM2 := Lib.hid (HM.out.next hb8); clear HM hb8 a0 a1 a2 a3 a4 a5 a6 a7 s0 s1 s2 s3 s4 s5 s6 s7
            have HM := Lib.hid HM2.out; clear HM2
            by_cases hle : st ≤ rem
            · have HOV2 : Box (Ov a b k (i + 1) (2 * n + 1) (rem - st)) := ⟨by rw [← HST.out]; exact HOV.out.yes hlt (by rw [HST.out]; exact hle)⟩
              obtain ⟨c, hc⟩ : ∃ c, lessN st rem = c := ⟨_, rfl⟩
              have hcb := lessN_le hle
              rw [hc] at hcb ⊢
              clear hc
              obtain ⟨a0, a1, a2, a3, a4, a5, a6, a7⟩ := HM.out.A.cells
              obtain ⟨s0, s1, s2, s3, s4, s5, s6, s7⟩ := HM.out.S.cells
              go_wp2_with fail
              refine (minus_any _ _ _ hle).mono ?_
              rintro e w9 ⟨rfl, hb9⟩
              have HM2 := Lib.hid (HM.out.next hb9); clear HM hb9 a0 a1 a2 a3 a4 a5 a6 a7 s0 s1 s2 s3 s4 s5 s6 s7
              have HM := Lib.hid (HM2.out.setA (c := rem - st) (Nat.lt_of_le_of_lt (Nat.sub_le _ _) HM2.out.ha))
              obtain ⟨a0, a1, a2, a3, a4, a5, a6, a7⟩ := HM2.out.A.cells; have fa := HM2.out.frA
              go_wp2_with fail
              go_roundw
              case rel => exact ⟨i + 1, 2 * n + 1, rem - st, rfl, rfl, by rw [HST.out]; exact HM.out, HOV2.out⟩
              case measure => simp [intOf]; omega
            · rw [lessN_gt (by omega)]
              have HOV2 : Box (Ov a b k (i + 1) (2 * n) rem) := ⟨HOV.out.no hlt (by rw [HST.out]; omega)⟩
              go_wp2_with fail
              go_roundw
              case rel => exact ⟨i + 1, 2 * n, rem, rfl, rfl, by rw [HST.out]; exact HM.out, HOV2.out⟩
              case measure => simp [intOf]; omega
end Go.Proofs.YtlplligfnbkofaaDoor
