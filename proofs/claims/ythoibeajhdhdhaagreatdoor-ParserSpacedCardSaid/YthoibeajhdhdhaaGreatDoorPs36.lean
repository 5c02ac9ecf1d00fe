/- Contracts, packed: Oc. -/
import Derived.Test.YthoibeajhdhdhaaGreatDoorPs15
import Derived.Test.YthoibeajhdhdhaaGreatDoorPs35
set_option linter.unusedVariables false
set_option linter.unusedSimpArgs false
namespace Go.Proofs.YthoibeajhdhdhaaGreatDoor
section
open Go.RowKit
theorem rtokInfo : (Tryz.prog.info? 71).map (fun i => (i.zero, i.size, i.bytes)) = some (some (.agg zeroTok), 4, 40) := by kernel_rfl
theorem cells4r (w : World) (t : TypeId) (v0 v1 v2 v3 : Value) : ∀ j u, [v0, v1, v2, v3][j]? = some u → (w.alloc (.cells #[v0, v1, v2, v3] t)).cell? ((⟨w.heap.size, 0, none⟩ : Addr).add j) = some u := by
 intro j u hj
 match j, hj with
 | 0, hj => simp at hj; subst hj; simp [Addr.add]
 | 1, hj => simp at hj; subst hj; simp [Addr.add]
 | 2, hj => simp at hj; subst hj; simp [Addr.add]
 | 3, hj => simp at hj; subst hj; simp [Addr.add]
 | j + 4, hj => simp at hj
theorem rtok_one (t : Tok) : ∀ u ∈ tokL t, u.oneCell' = true := by
 intro u hu
 simp [tokL, tokC] at hu
 rcases hu with rfl | rfl | rfl | rfl <;> rfl
theorem own_belowR {w w' : World} {B t size n : Nat} {v : Value} {xs : List Value} (h : w.ownsRow B t size v n xs) (hb : Below w.heap.size w w') : w'.ownsRow B t size v n xs := by
 obtain ⟨h1, h2⟩ := h
 refine ⟨h1, ?_⟩
 rcases h2 with ⟨rfl, rfl⟩ | ⟨g, cap, cur, rfl, hg, hh, hn, hc, hs, hx⟩
 ·exact .inl ⟨rfl, rfl⟩
 ·exact .inr ⟨g, cap, cur, rfl, hg, (hb.block g (Array.getElem?_eq_some_iff.1 hh).1).trans hh, hn, hc, hs, hx⟩
theorem tokM_le {i : Nat} {c : UInt8} {r : List UInt8} (h : (tokM i c r).1 = 0) : (tokM i c r).2.2 ≤ (c :: r).length := by
 unfold tokM at *
 by_cases h1 : letB c
 ·rw [if_pos h1]; exact (tokW_f i (c :: r)).2
 rw [if_neg h1] at h ⊢
 by_cases h2 : digB c
 ·rw [if_pos h2]; exact (tokN_f i (c :: r)).2
 rw [if_neg h2] at h ⊢
 by_cases h3 : c.toNat = 34
 ·rw [if_pos h3] at h ⊢; exact (tokT_f h (by simp)).2
 ·rw [if_neg h3]; exact (tokS_f i (c :: r)).2
/-- the tokens so far, and what is left -/
structure Rtk (w W : World) (s : ByteArray) (v : Value) (pre : List Tok) (k : Nat) : Prop where
 below : Below w.heap.size w W
 row : W.ownsRow w.heap.size 71 4 v pre.length (pre.flatMap tokL)
 le : k ≤ s.size
 cnt : pre.length ≤ k
 eq : lexM s.size 0 (lst s) = (pre ++ (lexF s k).1, (lexF s k).2)
/-- a token read, or an error -/
def TkPost (wr : World) (tb k : Nat) (R : Int × Tok × Nat) (en e : Value) (wx : World) : Prop :=
 ∃ (n a b c : Int) (x : ByteArray), en = .int .i64 n ∧ e = .int .i64 R.1 ∧ Box (Blk wx tb 71 #[.int .i64 a, .string x, .int .i64 b, .int .i64 c]) ∧ Box (Below tb wr wx) ∧ Box (R.1 = 0 → n = ((k + R.2.2 : Nat) : Int) ∧ (#[.int .i64 a, .string x, .int .i64 b, .int .i64 c] : Array Value) = tokC R.2.1)
theorem bsetR {B : Nat} {w W : World} (h : Below B w W) {g k : Nat} (hg : B ≤ g) (v : Value) : Below B w (W.setCell ⟨g, k, none⟩ v) := h.setCell (p := ⟨g, k, none⟩) hg v
set_option maxHeartbeats 8000000 in
set_option maxRecDepth 100000 in
theorem rtokens_any (s : ByteArray) (w : World) (hs : s.size ≤ maxLen) : Calls Tryz.prog 42 #[.string s] w (RetTk s w) := by
 unfold maxLen at hs
 by_cases hbig : 2000 < s.size
 ·have hbig2 : (2000 : Int) < (s.size : Int) := by omega
  have HBG := Box.mk hbig
  clear hbig
  go_enter Tryz.func42, Tryz.ntmps42
  go_wp2_with fail
  exact bodyPost_ret (v := .tuple #[.slice none 0 0, .int .i64 2000, .int .i64 4]) (by simp [results, Tryz.results42, go_sem]) rfl ⟨Below.refl _ _, by rw [if_pos HBG.out]⟩
 ·have hbig2 : ¬ (2000 : Int) < (s.size : Int) := by omega
  have HBG := Box.mk hbig
  have hs4 : s.size ≤ 4000 := by omega
  clear hbig
  go_enter Tryz.func42, Tryz.ntmps42
  go_wp2_with fail
  go_loopw [5, 6] (fun v i wr => ∃ (k : Nat) (pre : List Tok), i = .int .i64 k ∧ Rtk w wr s v pre k) (fun _ i _ => s.size - (intOf i).toNat)
  case atStart => exact ⟨0, [], rfl, Below.refl _ _, World.ownsRow_nil _ _ _ _, by omega, by simp, by rw [lexF_all]; rfl⟩
  case round =>
   obtain ⟨k, pre, rfl, hE⟩ := hrel
   have HE := Box.mk hE
   have hke := hE.le
   have hcn := hE.cnt
   have hwz := hE.below.size
   clear hE
   by_cases hlt : k < s.size
   ·have hlt2 : (k : Int) < (s.size : Int) := by omega
    obtain ⟨c, hc⟩ : ∃ c, s[k] = c := ⟨_, rfl⟩
    obtain ⟨a0, ha0⟩ : ∃ a, spcB c = a := ⟨_, rfl⟩
    obtain ⟨a1, ha1⟩ : ∃ a, letB c = a := ⟨_, rfl⟩
    obtain ⟨a2, ha2⟩ : ∃ a, digB c = a := ⟨_, rfl⟩
    have HA0 : Box (∀ w, Calls Tryz.prog 70 #[.int .u8 (s[k].toNat : Int)] w fun e w' => e = .returned (.bool a0) ∧ w = w') := ⟨fun w => by rw [hc, ← ha0]; exact rwhite_any _ w⟩
    have HA1 : Box (∀ w, Calls Tryz.prog 71 #[.int .u8 (s[k].toNat : Int)] w fun e w' => e = .returned (.bool a1) ∧ w = w') := ⟨fun w => by rw [hc, ← ha1]; exact rletter_any _ w⟩
    have HA2 : Box (∀ w, Calls Tryz.prog 73 #[.int .u8 (s[k].toNat : Int)] w fun e w' => e = .returned (.bool a2) ∧ w = w') := ⟨fun w => by rw [hc, ← ha2]; exact rdigit_any _ w⟩
    have HC := Box.mk (And.intro hc (And.intro ha0 (And.intro ha1 ha2)))
    clear hc ha0 ha1 ha2
    cases a0
    ·obtain ⟨Rr, HR⟩ : ∃ R, Box (tokM k s[k] ((lst s).drop (k + 1)) = R) := ⟨_, ⟨rfl⟩⟩
     have HRW : Box (a1 = true → Rr = tokW k ((lst s).drop k)) := ⟨fun h => by rw [← HR.out, kdrop_at hlt, HC.out.1]; unfold tokM; rw [HC.out.2.2.1, if_pos h]⟩
     have HRN : Box (a1 = false → a2 = true → Rr = tokN k ((lst s).drop k)) := ⟨fun h h2 => by rw [← HR.out, kdrop_at hlt, HC.out.1]; unfold tokM; rw [HC.out.2.2.1, h, HC.out.2.2.2, h2]; rfl⟩
     have HRT : Box (a1 = false → a2 = false → c.toNat = 34 → Rr = tokT k ((lst s).drop k)) := ⟨fun h h2 h3 => by rw [← HR.out, kdrop_at hlt, HC.out.1]; unfold tokM; rw [HC.out.2.2.1, h, HC.out.2.2.2, h2, if_pos h3]; rfl⟩
     have HRS : Box (a1 = false → a2 = false → ¬ c.toNat = 34 → Rr = tokS k ((lst s).drop k)) := ⟨fun h h2 h3 => by rw [← HR.out, kdrop_at hlt, HC.out.1]; unfold tokM; rw [HC.out.2.2.1, h, HC.out.2.2.2, h2, if_neg h3]; rfl⟩
     go_upto_region 9 with (go_at_call 70; (with_reducible refine (HA0.out _).mono ?_); rintro e w' ⟨rfl, rfl⟩)
     have HB : Box (Blk (wr.alloc (.cells #[.int .i64 0, .string ⟨#[]⟩, .int .i64 0, .int .i64 (k : Int)] 71)) wr.heap.size 71 #[.int .i64 0, .string ⟨#[]⟩, .int .i64 0, .int .i64 (k : Int)] ∧ Below wr.heap.size wr (wr.alloc (.cells #[.int .i64 0, .string ⟨#[]⟩, .int .i64 0, .int .i64 (k : Int)] 71)) ∧ wr.heap.size < (wr.alloc (.cells #[.int .i64 0, .string ⟨#[]⟩, .int .i64 0, .int .i64 (k : Int)] 71)).heap.size) := ⟨Blk.new _ _ _, bel1 _ _, by simp⟩
     generalize wr.alloc (.cells #[.int .i64 0, .string ⟨#[]⟩, .int .i64 0, .int .i64 (k : Int)] 71) = Wt at HB ⊢
     obtain ⟨tb, htb⟩ : ∃ tb, wr.heap.size = tb := ⟨_, rfl⟩
     have HTB := Box.mk htb
     rw [htb]
     rw [htb] at HB
     obtain ⟨t0, t1, t2, t3⟩ := HB.out.1.c4
     have tf := HB.out.1.frozen
     clear htb
     go_upto_if 29 with (go_at_call 71; (with_reducible refine (HA1.out _).mono ?_); rintro e w' ⟨rfl, rfl⟩)
     go_cut [8, 9] (fun en e wx => TkPost wr tb k Rr en e wx)
     case first =>
      cases a1
      ·cases a2
       ·by_cases h34 : c.toNat = 34
        ·have g34 : ((s[k].toNat : Int) == 34) = true := by rw [HC.out.1]; simp; omega
         have HX := Box.mk (HRT.out rfl rfl h34)
         clear h34 HRW HRN HRT HRS
         go_wp2_with (first | (go_at_call 73; (with_reducible refine (HA2.out _).mono ?_); rintro e w' ⟨rfl, rfl⟩) | (go_at_call 75; refine (rquoted_any s k _ hlt hs4).mono ?_; rintro e w' ⟨rfl, x, hxs, rfl, hxe⟩; rw [← HX.out] at hxe ⊢; obtain ⟨e1, HE1⟩ : ∃ e1, Box (Rr.1 = e1) := ⟨_, ⟨rfl⟩⟩; rw [HE1.out]; have HXE := Box.mk hxe; clear hxe))
         go_meet
         refine ⟨_, 2, 0, k, x, rfl, by rw [HE1.out], ⟨by simpa using (HB.out.1.set 0 (.int .i64 2)).set 1 (.string x)⟩, ⟨bsetR (bsetR HB.out.2.1 (Nat.le_refl _) _) (Nat.le_refl _) _⟩, ⟨fun h => ?_⟩⟩
         obtain ⟨q1, q2, q3⟩ := HXE.out h
         rw [q3]
         exact ⟨by omega, by rw [q1]⟩
        ·have g34 : ((s[k].toNat : Int) == 34) = false := by rw [HC.out.1]; simp; omega
         have HX := Box.mk (HRS.out rfl rfl h34)
         clear h34 HRW HRN HRT HRS
         obtain ⟨n, HN⟩ : ∃ n, Box (symN ((lst s).drop k) = n) := ⟨_, ⟨rfl⟩⟩
         have HNL : Box (n ≤ s.size - k) := ⟨by rw [← HN.out]; have := symN_le ((lst s).drop k); rw [List.length_drop, data_size] at this; exact this⟩
         have HXT : Box (Rr = (if n = 0 then 2 else 0, ⟨3, ((lst s).drop k).take n, 0, k⟩, n)) := ⟨by rw [HX.out]; unfold tokS; rw [HN.out]⟩
         obtain ⟨x, HXX⟩ : ∃ x, Box (bsL (((lst s).drop k).take n) = x) := ⟨_, ⟨rfl⟩⟩
         have HXS : Box (x.size = n) := ⟨by rw [← HXX.out, bsL_size, List.length_take, List.length_drop, data_size]; have := HNL.out; omega⟩
         have HB3 : Box (Blk (Wt.setCell ⟨tb, 0, none⟩ (.int .i64 3)) tb 71 #[.int .i64 3, .string ⟨#[]⟩, .int .i64 0, .int .i64 (k : Int)] ∧ Below tb wr (Wt.setCell ⟨tb, 0, none⟩ (.int .i64 3))) := ⟨by simpa using HB.out.1.set 0 (.int .i64 3), bsetR HB.out.2.1 (Nat.le_refl _) _⟩
         go_upto_region 27 with (first | (go_at_call 73; (with_reducible refine (HA2.out _).mono ?_); rintro e w' ⟨rfl, rfl⟩))
         generalize Wt.setCell ⟨tb, 0, none⟩ (.int .i64 3) = W3 at HB3 ⊢
         clear t0 t1 t2 t3 tf
         go_wp2_with fail
         refine (rsymbol_any s k _ hlt hs4).mono ?_
         rintro e w5 ⟨rfl, hb5⟩
         rw [HN.out, HXX.out]
         have HB5 : Box (Blk w5 tb 71 #[.int .i64 3, .string ⟨#[]⟩, .int .i64 0, .int .i64 (k : Int)] ∧ Below tb wr w5) := ⟨HB3.out.1.below hb5, bthen HB3.out.2 hb5 (by have := HTB.out; omega)⟩
         clear hb5 HB3
         obtain ⟨t0, t1, t2, t3⟩ := HB5.out.1.c4
         have tf := HB5.out.1.frozen
         have hxs : x.size ≤ 4000 := by have := HXS.out; have := HNL.out; omega
         by_cases h0 : n = 0
         ·have hxe : x.toList.isEmpty = true := by rw [← HXX.out, h0, List.take_zero, ByteArray.toList_eq]; rfl
          have HR2 : Box (Rr.1 = 2) := ⟨by rw [HXT.out, if_pos h0]⟩
          clear h0
          go_wp2_with fail
          go_meet
          exact ⟨_, 3, 0, k, x, rfl, by rw [HR2.out], ⟨by simpa using HB5.out.1.set 1 (.string x)⟩, ⟨bsetR HB5.out.2 (Nat.le_refl _) _⟩, ⟨fun h => by rw [HR2.out] at h; simp at h⟩⟩
         ·have hxe : x.toList.isEmpty = false := by
           rw [ByteArray.toList_eq]
           cases h : x.data.toList with
           | nil => exfalso; have h5 := HXS.out; rw [← data_size, h] at h5; exact h0 h5.symm
           | cons a b => rfl
          have HR2 : Box (Rr = (0, ⟨3, ((lst s).drop k).take n, 0, k⟩, n)) := ⟨by rw [HXT.out, if_neg h0]⟩
          clear h0
          go_wp2_with fail
          go_meet
          exact ⟨_, 3, 0, k, x, rfl, by rw [HR2.out], ⟨by simpa using HB5.out.1.set 1 (.string x)⟩, ⟨bsetR HB5.out.2 (Nat.le_refl _) _⟩, ⟨fun h => by rw [HR2.out]; exact ⟨by have := HXS.out; simp only; omega, by rw [← HXX.out]⟩⟩⟩
       ·have HX := Box.mk (HRN.out rfl rfl)
        clear HRW HRN HRT HRS
        obtain ⟨en, HEN⟩ : ∃ en, Box (k + twN digB s k = en) := ⟨_, ⟨rfl⟩⟩
        have hen : k ≤ en ∧ en ≤ s.size := by have := twN_le (f := digB) hke; have := HEN.out; omega
        have hen1 := hen.1
        have hen2 := hen.2
        clear hen
        obtain ⟨V, HV⟩ : ∃ V, Box (numV 0 (((lst s).drop k).takeWhile digB) = V) := ⟨_, ⟨rfl⟩⟩
        obtain ⟨x, HXX⟩ : ∃ x, Box (s.extract k en = x) := ⟨_, ⟨rfl⟩⟩
        have HXB : Box (x = bsL (((lst s).drop k).takeWhile digB)) := ⟨by rw [← HXX.out, ← HEN.out]; exact ext_tw _ _ _⟩
        have HXT : Box (Rr = (if 1073741824 < V then 5 else 0, ⟨1, ((lst s).drop k).takeWhile digB, V, k⟩, en - k)) := ⟨by rw [HX.out]; unfold tokN; rw [HV.out, show (((lst s).drop k).takeWhile digB).length = en - k from by have h1 := HEN.out; have h2 : twN digB s k = (((lst s).drop k).takeWhile digB).length := rfl; omega]⟩
        by_cases hbv : 1073741824 < V
        ·have HR2 : Box (Rr.1 = 5) := ⟨by rw [HXT.out, if_pos hbv]⟩
         go_wp2_with (first | (go_at_call 73; (with_reducible refine (HA2.out _).mono ?_); rintro e w' ⟨rfl, rfl⟩) | (go_at_call 74; refine (rnumber_any s k _ hke hs4).mono ?_; rintro e w' ⟨rfl, rfl⟩; rw [HEN.out, HV.out]))
         go_meet
         exact ⟨_, 1, V, k, x, rfl, by rw [HR2.out], ⟨by rw [← HXX.out]; simpa using ((HB.out.1.set 2 (.int .i64 V)).set 0 (.int .i64 1)).set 1 (.string (s.extract k en))⟩, ⟨bsetR (bsetR (bsetR HB.out.2.1 (Nat.le_refl _) _) (Nat.le_refl _) _) (Nat.le_refl _) _⟩, ⟨fun h => by rw [HR2.out] at h; simp at h⟩⟩
        ·have HR2 : Box (Rr = (0, ⟨1, ((lst s).drop k).takeWhile digB, V, k⟩, en - k)) := ⟨by rw [HXT.out, if_neg hbv]⟩
         go_wp2_with (first | (go_at_call 73; (with_reducible refine (HA2.out _).mono ?_); rintro e w' ⟨rfl, rfl⟩) | (go_at_call 74; refine (rnumber_any s k _ hke hs4).mono ?_; rintro e w' ⟨rfl, rfl⟩; rw [HEN.out, HV.out]))
         go_meet
         exact ⟨_, 1, V, k, x, rfl, by rw [HR2.out], ⟨by rw [← HXX.out]; simpa using ((HB.out.1.set 2 (.int .i64 V)).set 0 (.int .i64 1)).set 1 (.string (s.extract k en))⟩, ⟨bsetR (bsetR (bsetR HB.out.2.1 (Nat.le_refl _) _) (Nat.le_refl _) _) (Nat.le_refl _) _⟩, ⟨fun h => by rw [HR2.out]; exact ⟨by simp only; omega, by rw [HXB.out]⟩⟩⟩
      ·have HX := Box.mk (HRW.out rfl)
       clear HRW HRN HRT HRS
       obtain ⟨en, HEN⟩ : ∃ en, Box (k + twN wrdB s k = en) := ⟨_, ⟨rfl⟩⟩
       have hen : k ≤ en ∧ en ≤ s.size := by have := twN_le (f := wrdB) hke; have := HEN.out; omega
       have hen1 := hen.1
       have hen2 := hen.2
       clear hen
       obtain ⟨x, HXX⟩ : ∃ x, Box (s.extract k en = x) := ⟨_, ⟨rfl⟩⟩
       have HXB : Box (x = bsL (((lst s).drop k).takeWhile wrdB)) := ⟨by rw [← HXX.out, ← HEN.out]; exact ext_tw _ _ _⟩
       have HXT : Box (Rr = (if 16 < en - k then 4 else 0, ⟨0, ((lst s).drop k).takeWhile wrdB, 0, k⟩, en - k)) := ⟨by rw [HX.out]; unfold tokW; rw [show (((lst s).drop k).takeWhile wrdB).length = en - k from by have h1 := HEN.out; have h2 : twN wrdB s k = (((lst s).drop k).takeWhile wrdB).length := rfl; omega]⟩
       by_cases hbv : 16 < en - k
       ·have HR2 : Box (Rr.1 = 4) := ⟨by rw [HXT.out, if_pos hbv]⟩
        have hbv2 : (16 : Int) < (en : Int) - (k : Int) := by omega
        clear hbv
        go_wp2_with (go_at_call 72; refine (rword_any s k _ hke hs4).mono ?_; rintro e w' ⟨rfl, rfl⟩; rw [HEN.out])
        go_meet
        exact ⟨_, 0, 0, k, x, rfl, by rw [HR2.out], ⟨by rw [← HXX.out]; simpa using HB.out.1.set 1 (.string (s.extract k en))⟩, ⟨bsetR HB.out.2.1 (Nat.le_refl _) _⟩, ⟨fun h => by rw [HR2.out] at h; simp at h⟩⟩
       ·have HR2 : Box (Rr = (0, ⟨0, ((lst s).drop k).takeWhile wrdB, 0, k⟩, en - k)) := ⟨by rw [HXT.out, if_neg hbv]⟩
        have hbv2 : ¬ (16 : Int) < (en : Int) - (k : Int) := by omega
        clear hbv
        go_wp2_with (go_at_call 72; refine (rword_any s k _ hke hs4).mono ?_; rintro e w' ⟨rfl, rfl⟩; rw [HEN.out])
        go_meet
        exact ⟨_, 0, 0, k, x, rfl, by rw [HR2.out], ⟨by rw [← HXX.out]; simpa using HB.out.1.set 1 (.string (s.extract k en))⟩, ⟨bsetR HB.out.2.1 (Nat.le_refl _) _⟩, ⟨fun h => by rw [HR2.out]; exact ⟨by simp only; omega, by rw [HXB.out]⟩⟩⟩
     case rest =>
      obtain ⟨n, ka, kb, kc, x, rfl, rfl, HBX, HBL, HOK⟩ := hcut
      rename World => wx
      clear t0 t1 t2 t3 tf HB
      by_cases he : Rr.1 = 0
      ·have he2 : (Rr.1 != 0) = false := by simp [he]
       obtain ⟨h1, h2⟩ := HOK.out he
       simp only [tokC, Array.mk.injEq, List.cons.injEq, Value.int.injEq, Value.string.injEq, true_and, and_true] at h2
       obtain ⟨q1, q2, q3, q4⟩ := h2
       subst h1 q1 q2 q3 q4
       have HLF := Box.mk (lexF_tok hlt (by rw [HC.out.1]; exact HC.out.2.1) Rr HR.out he)
       have hps : 1 ≤ Rr.2.2 := by have := tok_pos (HR.out ▸ he); rw [HR.out] at this; exact this
       have hle : k + Rr.2.2 ≤ s.size := by
        have := tokM_le (HR.out ▸ he)
        rw [HR.out, ← kdrop_at hlt, List.length_drop, data_size] at this
        omega
       obtain ⟨tok, HTO⟩ : ∃ tok, Box (Rr.2.1 = tok) := ⟨_, ⟨rfl⟩⟩
       rw [HTO.out] at HBX HLF
       obtain ⟨j0, hj, hy0, hy1, hy2⟩ := info_parts rtokInfo
       have HJ := Box.mk (And.intro hj (And.intro hy0 (And.intro hy1 hy2)))
       have HO5 : Box (wx.ownsRow w.heap.size 71 4 u5 pre.length (pre.flatMap tokL)) := ⟨own_belowR HE.out.row (by rw [HTB.out]; exact HBL.out)⟩
       have HZ5 : Box (w.heap.size ≤ wx.heap.size) := ⟨by have := HBL.out.size; omega⟩
       have hz5 := HZ5.out
       obtain ⟨t0, t1, t2, t3⟩ := HBX.out.c4
       clear hj hy0 hy1 hy2 he HOK
       generalize Rr.2.2 = rl at *
       go_wp2_with (at_builtin; refine wpList_append_lies _ rfl _ _ 68 rfl w.heap.size 71 j0 _ 4 40 Tryz.underlying68 HJ.out.1 HJ.out.2.1 HJ.out.2.2.1 HJ.out.2.2.2 rfl (by decide) u5 pre.length (pre.flatMap tokL) rfl (by exact World.ownsRow.alloc HO5.out _) ⟨wx.heap.size, 0, none⟩ 1 1 (tokL tok) rfl rfl (cells4r _ _ _ _ _ _) (rtok_one _) (by decide) (by unfold maxLen; omega) (by omega) (by simp; omega) _ rfl ?_; intro g8 cap8 w6 hown6 hg6 hat6 hlt6)
       have HB6 : Box (Below w.heap.size wx w6) := ⟨((Below.refl _ _).alloc (by omega) _).trans (grow_lt (World.ownsRow.alloc HO5.out _) hg6 (by simp; omega))⟩
       have HE2 : Box (Rtk w w6 s (.slice (some ⟨g8, 0, none⟩) (pre.length + 1) cap8) (pre ++ [tok]) (k + rl)) := ⟨(bthen HE.out.below (by rw [HTB.out]; exact HBL.out) (Nat.le_refl _)).trans HB6.out, by rw [List.flatMap_append]; simpa using hown6, hle, by simp; omega, by rw [HE.out.eq, HLF.out]; simp⟩
       clear hown6 hg6 hat6 hlt6 t0 t1 t2 t3
       go_wp2_with fail
       go_roundw
       case rel => exact ⟨k + rl, pre ++ [tok], by go_num, HE2.out⟩
       case measure => simp [intOf]; omega
      ·have he2 : (Rr.1 != 0) = true := by simp [he]
       have HF : Box (lexM s.size 0 (lst s) = (pre, Rr.1, k)) := ⟨by rw [HE.out.eq, lexF_bad hlt (by rw [HC.out.1]; exact HC.out.2.1) Rr HR.out he]; simp⟩
       have HNE := Box.mk he
       have HBF : Box (Below w.heap.size w wx) := ⟨bthen HE.out.below (by rw [HTB.out]; exact HBL.out) (Nat.le_refl _)⟩
       clear he HBX
       go_wp2_with fail
       exact bodyPost_ret (v := .tuple #[.slice none 0 0, .int .i64 k, .int .i64 Rr.1]) (by simp [results, Tryz.results42, go_sem]) rfl ⟨HBF.out, by rw [if_neg HBG.out, HF.out, if_neg HNE.out]⟩
    ·have HE2 : Box (Rtk w wr s u5 pre (k + 1)) := ⟨HE.out.below, HE.out.row, by omega, by omega, by rw [HE.out.eq, lexF_spc hlt (by rw [HC.out.1]; exact HC.out.2.1)]⟩
     go_wp2_with (go_at_call 70; (with_reducible refine (HA0.out _).mono ?_); rintro e w' ⟨rfl, rfl⟩)
     go_roundw
     case rel => exact ⟨k + 1, pre, by go_num, HE2.out⟩
     case measure => simp [intOf]; omega
   ·have hlt2 : ¬ (k : Int) < (s.size : Int) := by omega
    have HF : Box (lexM s.size 0 (lst s) = (pre, 0, k)) := ⟨by rw [HE.out.eq, lexF_end (by omega)]; simp⟩
    have HQ : Box (SeqP wr (fun b _ => w.heap.size ≤ b) 4 u5 pre.length (pre.flatMap tokL)) := ⟨SeqP.of_own HE.out.row fun b c hb _ => hb⟩
    obtain ⟨A, c, hv, -⟩ := HQ.out.form
    subst hv
    go_wp2_with fail
    exact bodyPost_ret (v := .tuple #[.slice A pre.length c, .int .i64 0, .int .i64 0]) (by simp [results, Tryz.results42, go_sem]) rfl ⟨HE.out.below, by rw [if_neg HBG.out, HF.out, if_pos rfl]; exact ⟨A, pre.length, c, rfl, rfl, HQ.out⟩⟩
end
end Go.Proofs.YthoibeajhdhdhaaGreatDoor
