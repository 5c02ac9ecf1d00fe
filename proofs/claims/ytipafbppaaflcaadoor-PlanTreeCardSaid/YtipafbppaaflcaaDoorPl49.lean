/- Contracts, packed: Af. -/
import Derived.Test.YtipafbppaaflcaaDoorPl47
import Derived.Test.YtipafbppaaflcaaDoorPl48
set_option linter.unusedVariables false
set_option linter.unusedSimpArgs false
namespace Go.Proofs.YtipafbppaaflcaaDoor
section
open Go.RowKit FracM
def oneN : Nd := ⟨0, 0, 0, 0, 0, 1, 1, ⟨#[]⟩, [], []⟩
theorem oneN_ok : NdOk oneN := ⟨⟨(by unfold I64; decide), (by unfold I64; decide), (by unfold I64; decide), (by unfold I64; decide), (by unfold I64; decide), (by unfold I64; decide), (by unfold I64; decide)⟩, (by unfold maxLen; decide), (fun m h => by cases h), (fun m h => by cases h)⟩
theorem one_at (w : World) (P : Nat → Nat → Prop) : InsAt w P oneN (.slice none 0 0) (.slice none 0 0) := ⟨oneN_ok, SeqP.nil _ _ _, SeqP.nil _ _ _⟩
theorem bin_at (w : World) (P : Nat → Nat → Prop) : InsAt w P liveB (.slice none 0 0) (.slice none 0 0) := ⟨liveB_ok, SeqP.nil _ _ _, SeqP.nil _ _ _⟩
theorem oneN_small : SmallD oneN := by constructor <;> decide
theorem liveB_small : SmallD liveB := by constructor <;> decide
theorem small_snoc {m : List Nd} {d : Nd} (h : ∀ d ∈ m, SmallD d) (hd : SmallD d) : ∀ e ∈ m ++ [d], SmallD e := fun e he => by
 rcases List.mem_append.1 he with h1 | h1
 ·exact h e h1
 ·simp only [List.mem_singleton] at h1; rw [h1]; exact hd
theorem small_app {m n : List Nd} (h : ∀ d ∈ m, SmallD d) (k : ∀ d ∈ n, SmallD d) : ∀ e ∈ m ++ n, SmallD e := fun e he => by
 rcases List.mem_append.1 he with h1 | h1
 ·exact h e h1
 ·exact k e h1
abbrev NoP : Nat → Nat → Prop := fun _ _ => False
theorem agree_no {w w' : World} (h : w.heap.size ≤ w'.heap.size) : Agree NoP w w' := ⟨h, fun b e o hp _ _ => by cases hp⟩
/-- a plan without rows of its instructions, of at most n instructions -/
def RetBal (n : Nat) (w : World) (e : Ending) (w' : World) : Prop := ∃ m v', e = .returned v' ∧ PlW w' w.heap.size NoP v' m ∧ 0 < m.length ∧ m.length ≤ n ∧ (∀ d ∈ m, SmallD d) ∧ Below w.heap.size w w'
theorem PlW.lit {w : World} {b : Nat} {P : Nat → Nat → Prop} {d : Nd} {mv bv : Value} (h : Blk w b 45 (insC d mv bv)) (hi : InsAt w P d mv bv) : PlW w b P (.slice (some ⟨b, 0, none⟩) 1 1) [d] := by
 refine ⟨[(mv, bv)], ⟨rfl, .inr ⟨b, 1, insC d mv bv, rfl, Nat.le_refl _, h, Nat.le_refl _, by unfold maxLen; omega, rfl, rfl⟩⟩, rfl, fun i d' c h1 h2 => ?_⟩
 cases i with
 | zero => simp at h1 h2; subst h1 h2; exact hi
 | succ i => simp at h1
set_option maxHeartbeats 4000000 in
set_option maxRecDepth 100000 in
theorem balanced_any : ∀ (n : Nat), ∀ (w : World), 1 ≤ n → n ≤ 1000 → Calls Tryd.prog 18 #[.int .i64 (n : Int)] w (RetBal (2 * n - 1) w) := by
 intro n
 induction n using Nat.strongRecOn with
 | _ n ih =>
 intro w hn1 hn
 obtain ⟨j0, hi, hz0, hz1, hz2⟩ := info_parts insInfo
 have HJ := Box.mk (And.intro hi (And.intro hz0 (And.intro hz1 hz2)))
 clear hi hz0 hz1 hz2
 by_cases h1 : n ≤ 1
 ·have h2 : (n : Int) ≤ 1 := by omega
  go_enter Tryd.func18, Tryd.ntmps18
  go_wp2_with fail
  go_ret
  exact ⟨[oneN], _, rfl, PlW.lit (Blk.new _ _ _) (one_at _ _), by decide, by simp; omega, (fun d h => by simp at h; rw [h]; exact oneN_small), bel1 _ _⟩
 ·have h2 : ¬ (n : Int) ≤ 1 := by omega
  have IH1 : Box (∀ w : World, Calls Tryd.prog 18 #[.int .i64 ((n : Int) / 2)] w (RetBal (2 * (n / 2) - 1) w)) := ⟨fun w => by have h := ih (n / 2) (by omega) w (by omega) (by omega); rw [show ((n / 2 : Nat) : Int) = (n : Int) / 2 by omega] at h; exact h⟩
  have IH2 : Box (∀ w : World, Calls Tryd.prog 18 #[.int .i64 ((n : Int) - (n : Int) / 2)] w (RetBal (2 * (n - n / 2) - 1) w)) := ⟨fun w => by have h := ih (n - n / 2) (by omega) w (by omega) (by omega); rw [show ((n - n / 2 : Nat) : Int) = (n : Int) - (n : Int) / 2 by omega] at h; exact h⟩
  clear ih
  go_enter Tryd.func18, Tryd.ntmps18
  go_wp2_with fail
  with_reducible refine (IH1.out _).mono ?_
  rintro e1 w1 ⟨ma, va, rfl, hpa, hma, hla, hsa, hba⟩
  obtain ⟨A1, c1, rfl⟩ := hpa.form
  have H1 := Box.mk (And.intro hpa (And.intro hsa hba))
  clear hpa hsa hba
  go_wp2_with fail
  with_reducible refine (IH2.out _).mono ?_
  rintro e2 w2 ⟨mb, vb, rfl, hpb, hmb, hlb, hsb, hbb⟩
  obtain ⟨cs, hown, hrow⟩ := H1.out.1.below hbb
  obtain ⟨ds, hown2, hrow2⟩ := hpb
  obtain ⟨g2, c2, rfl, hg1, hg2, hcell⟩ := own_open hown2 hmb
  have H2 : Box ((w2.ownsRow w.heap.size 45 10 (.slice A1 ma.length c1) ma.length ((ma.zip cs).flatMap insL) ∧ InsRows w2 NoP ma cs) ∧ ((mb.zip ds).flatMap insL).length = mb.length * 10 ∧ InsRows w2 NoP mb ds ∧ Below w.heap.size w w2 ∧ (∀ d ∈ mb, SmallD d)) := ⟨⟨hown, hrow⟩, hown2.1, hrow2, bthen H1.out.2.2 hbb (Nat.le_refl _), hsb⟩
  have HC := Box.mk hcell
  have hz2 := H2.out.2.2.2.1.size
  clear hown hrow hown2 hrow2 hbb hsb hcell hg1
  go_wp2_with (first
   | (at_builtin; refine wpList_append_own _ rfl _ _ 36 rfl w.heap.size 45 j0 _ 10 120 Tryd.underlying36 HJ.out.1 HJ.out.2.1 HJ.out.2.2.1 HJ.out.2.2.2 rfl (by decide) (.slice A1 ma.length c1) ma.length ((ma.zip cs).flatMap insL) rfl H2.out.1.1 ⟨g2, 0, none⟩ mb.length c2 ((mb.zip ds).flatMap insL) rfl H2.out.2.1 HC.out H2.out.2.2.1.one (by unfold maxLen; omega) (by omega) hz2 ?_; intro v8 w8 hown8 hgr8 hnil8; obtain ⟨A8, c8, rfl⟩ := own_form hown8; have H8 : Box ((w8.ownsRow w.heap.size 45 10 (.slice A8 (ma.length + mb.length) c8) (ma.length + mb.length) ((ma.zip cs).flatMap insL ++ (mb.zip ds).flatMap insL)) ∧ Below w.heap.size w w8) := ⟨hown8, H2.out.2.2.2.1.trans ((Below.refl w.heap.size w2).grown hgr8 hz2 (fun k hk => (own_bk H2.out.1.1 k hk).1))⟩; have hz8 := H8.out.2.size; have hz28 := hgr8.size; clear hown8 hgr8 hnil8)
   | (at_builtin; refine wpList_append_own _ rfl _ _ 36 rfl w.heap.size 45 j0 _ 10 120 Tryd.underlying36 HJ.out.1 HJ.out.2.1 HJ.out.2.2.1 HJ.out.2.2.2 rfl (by decide) (.slice A8 (ma.length + mb.length) c8) (ma.length + mb.length) ((ma.zip cs).flatMap insL ++ (mb.zip ds).flatMap insL) rfl (own_below H8.out.1 (bel1 _ _)) ⟨w8.heap.size, 0, none⟩ 1 1 (insL (liveB, (.slice none 0 0), (.slice none 0 0))) rfl rfl (World.news_of_block (Blk.new _ _ _)) (ins_one _ ⟨_, _, _, rfl⟩ ⟨_, _, _, rfl⟩) (by unfold maxLen; omega) (by omega) (by simp; omega) ?_; intro v9 w9 hown9 hgr9 hnil9; obtain ⟨A9, c9, rfl⟩ := own_form hown9; have H9 : Box ((w9.ownsRow w.heap.size 45 10 (.slice A9 (ma.length + mb.length + 1) c9) (ma.length + mb.length + 1) (((ma.zip cs).flatMap insL ++ (mb.zip ds).flatMap insL) ++ insL (liveB, (.slice none 0 0), (.slice none 0 0)))) ∧ Below w.heap.size w w9) := ⟨hown9, H8.out.2.trans (((bel1 w8 _).mono hz8).grown hgr9 (by simp; omega) (fun k hk => (own_bk H8.out.1 k hk).1))⟩; have hz89 : w8.heap.size ≤ w9.heap.size := Nat.le_trans (bel1 w8 _).size hgr9.size; clear hown9 hgr9 hnil9))
  go_ret
  have HAB : InsRows w2 NoP (ma ++ mb) (cs ++ ds) := H2.out.1.2.app H2.out.2.2.1
  have hfl : ((ma ++ mb).zip (cs ++ ds)).flatMap insL = (ma.zip cs).flatMap insL ++ (mb.zip ds).flatMap insL := by rw [List.zip_append (by rw [H2.out.1.2.1]), List.flatMap_append]
  have hs9 : w2.heap.size ≤ w9.heap.size := by omega
  refine ⟨(ma ++ mb) ++ [liveB], _, rfl, PlW.snoc (w := w2) HAB (bin_at _ _) ?_ (agree_no hs9), by simp; omega, by simp; omega, small_snoc (small_app H1.out.2.1 H2.out.2.2.2.2) liveB_small, H9.out.2⟩
  rw [hfl, List.length_append]
  exact H9.out.1
set_option maxHeartbeats 8000000 in
set_option maxRecDepth 100000 in
theorem planLimits_walk (n many : Int) (w : World) (hw : WordsV w) (a1 : -9223372036854775808 ≤ n) (a2 : n ≤ 9223372036854775807) (b1 : -9223372036854775808 ≤ many) (b2 : many ≤ 9223372036854775807) :
  Calls Tryd.prog 5 #[.int .i64 n, .int .i64 many] w fun e w' => e = .returned (.bool true) ∧ Below w.heap.size w w' := by
 have HW := Box.mk hw
 clear hw
 obtain ⟨j0, hi, hz0, hz1, hz2⟩ := info_parts insInfo
 have HJ := Box.mk (And.intro hi (And.intro hz0 (And.intro hz1 hz2)))
 clear hi hz0 hz1 hz2
 obtain ⟨q1, q2⟩ := around_bd n 11 (by omega)
 obtain ⟨kn, hkn⟩ : ∃ kn : Nat, around n 11 = (kn : Int) := ⟨(around n 11).toNat, by omega⟩
 have CA : Box (∀ W : World, Calls Tryd.prog 17 #[.int .i64 n, .int .i64 11] W fun e w' => e = .returned (.int .i64 (kn : Int)) ∧ W = w') := ⟨fun W => by rw [← hkn]; exact around_any n 11 W a1 a2 (by omega) (by omega)⟩
 have hkn2 : kn < 11 := by omega
 obtain ⟨p1, p2⟩ := around_bd many 206 (by omega)
 obtain ⟨km, hkm⟩ : ∃ km : Nat, around many 206 = (km : Int) := ⟨(around many 206).toNat, by omega⟩
 have CM : Box (∀ W : World, Calls Tryd.prog 17 #[.int .i64 many, .int .i64 206] W fun e w' => e = .returned (.int .i64 (km : Int)) ∧ W = w') := ⟨fun W => by rw [← hkm]; exact around_any many 206 W b1 b2 (by omega) (by omega)⟩
 have hkm2 : km < 206 := by omega
 clear hkn hkm q1 q2 p1 p2 a1 a2 b1 b2
 obtain ⟨kk, hkk⟩ : ∃ kk, kk = 95 + kn := ⟨_, rfl⟩
 have hkk2 : (95 : Int) + (kn : Int) = (kk : Int) := by omega
 have hkk3 : 95 ≤ kk ∧ kk ≤ 105 := by omega
 obtain ⟨hkk3, hkk4⟩ := hkk3
 clear hkk
 go_enter Tryd.func5, Tryd.ntmps5
 go_upto_region 2 with (fail)
 have HO : Box (Below w.heap.size w (w.alloc (.cells #[.int .i64 0, .int .i64 0, .int .i64 0, .int .i64 0, .int .i64 0, .int .i64 1, .int .i64 1, .string ⟨#[]⟩, .slice none 0 0, .slice none 0 0] 45)) ∧ Blk (w.alloc (.cells #[.int .i64 0, .int .i64 0, .int .i64 0, .int .i64 0, .int .i64 0, .int .i64 1, .int .i64 1, .string ⟨#[]⟩, .slice none 0 0, .slice none 0 0] 45)) w.heap.size 45 #[.int .i64 0, .int .i64 0, .int .i64 0, .int .i64 0, .int .i64 0, .int .i64 1, .int .i64 1, .string ⟨#[]⟩, .slice none 0 0, .slice none 0 0]) := ⟨bel1 _ _, Blk.new _ _ _⟩
 have hzo : w.heap.size < (w.alloc (.cells #[.int .i64 0, .int .i64 0, .int .i64 0, .int .i64 0, .int .i64 0, .int .i64 1, .int .i64 1, .string ⟨#[]⟩, .slice none 0 0, .slice none 0 0] 45)).heap.size := by simp
 generalize w.alloc (.cells #[.int .i64 0, .int .i64 0, .int .i64 0, .int .i64 0, .int .i64 0, .int .i64 1, .int .i64 1, .string ⟨#[]⟩, .slice none 0 0, .slice none 0 0] 45) = W at HO hzo ⊢
 obtain ⟨k0, k1, k2, k3, k4, k5, k6, k7, k8, k9⟩ := blk10z (d := oneN) HO.out.2
 go_wp2_with (go_at_call 17; (with_reducible refine (CA.out _).mono ?_); rintro e7 w7 ⟨rfl, rfl⟩)
 have H1 : Box (PlW (W.alloc (.cells #[.int .i64 0, .int .i64 0, .int .i64 0, .int .i64 0, .int .i64 0, .int .i64 1, .int .i64 1, .string ⟨#[]⟩, .slice none 0 0, .slice none 0 0] 45)) (w.heap.size + 1) NoP (.slice (some ⟨W.heap.size, 0, none⟩) 1 1) [oneN] ∧ Below w.heap.size w (W.alloc (.cells #[.int .i64 0, .int .i64 0, .int .i64 0, .int .i64 0, .int .i64 0, .int .i64 1, .int .i64 1, .string ⟨#[]⟩, .slice none 0 0, .slice none 0 0] 45)) ∧ Blk (W.alloc (.cells #[.int .i64 0, .int .i64 0, .int .i64 0, .int .i64 0, .int .i64 0, .int .i64 1, .int .i64 1, .string ⟨#[]⟩, .slice none 0 0, .slice none 0 0] 45)) w.heap.size 45 #[.int .i64 0, .int .i64 0, .int .i64 0, .int .i64 0, .int .i64 0, .int .i64 1, .int .i64 1, .string ⟨#[]⟩, .slice none 0 0, .slice none 0 0]) := ⟨(PlW.lit (Blk.new W _ _) (one_at _ _)).base (by omega), bthen HO.out.1 (bel1 _ _) (Nat.le_refl _), HO.out.2.alloc _⟩
 clear k0 k1 k2 k3 k4 k5 k6 k7 k8 k9 HO CA
 go_loopw [7, 8] (fun lv v wr => ∃ (j : Nat) (m : List Nd), v = .int .i64 (j : Nat) ∧ 1 ≤ j ∧ j ≤ kk ∧ Box (PlW wr (w.heap.size + 1) NoP lv m ∧ m.length ≤ 2 * j ∧ ∀ d ∈ m, SmallD d) ∧ Box (Below w.heap.size w wr ∧ Blk wr w.heap.size 45 #[.int .i64 0, .int .i64 0, .int .i64 0, .int .i64 0, .int .i64 0, .int .i64 1, .int .i64 1, .string ⟨#[]⟩, .slice none 0 0, .slice none 0 0])) (fun _ v _ => kk - (intOf v).toNat)
 case atStart => exact ⟨1, [oneN], rfl, by omega, by omega, ⟨H1.out.1, by simp, fun d h => by simp at h; rw [h]; exact oneN_small⟩, ⟨H1.out.2.1, H1.out.2.2⟩⟩
 case round =>
  clear H1
  obtain ⟨j, m, rfl, hj1, hjk, HP, HS⟩ := hrel
  obtain ⟨AL, cl, rfl, hcl1, hcl2⟩ := HP.out.1.formL
  have hml := HP.out.2.1
  have hzw := HS.out.1.size
  have hzl := HS.out.2.lt
  obtain ⟨k0, k1, k2, k3, k4, k5, k6, k7, k8, k9⟩ := blk10z (d := oneN) HS.out.2
  by_cases hlt : j < kk
  ·have hlt2 : (j : Int) < (kk : Int) := by omega
   obtain ⟨cs, hown, hrow⟩ := HP.out.1
   have HM := Box.mk (And.intro hown hrow)
   have HTWO : Box (∀ i u, (insL (oneN, (.slice none 0 0), (.slice none 0 0)) ++ insL (liveB, (.slice none 0 0), (.slice none 0 0)))[i]? = some u → (wr.alloc (.cells #[.int .i64 0, .int .i64 0, .int .i64 0, .int .i64 0, .int .i64 0, .int .i64 1, .int .i64 1, .string ⟨#[]⟩, (.slice none 0 0), (.slice none 0 0), .int .i64 3, .int .i64 0, .int .i64 0, .int .i64 0, .int .i64 0, .int .i64 0, .int .i64 0, .string ⟨#[]⟩, (.slice none 0 0), (.slice none 0 0)] 45)).cell? ((⟨wr.heap.size, 0, none⟩ : Addr).add i) = some u) := ⟨World.news_of_block (cs := #[.int .i64 0, .int .i64 0, .int .i64 0, .int .i64 0, .int .i64 0, .int .i64 1, .int .i64 1, .string ⟨#[]⟩, (.slice none 0 0), (.slice none 0 0), .int .i64 3, .int .i64 0, .int .i64 0, .int .i64 0, .int .i64 0, .int .i64 0, .int .i64 0, .string ⟨#[]⟩, (.slice none 0 0), (.slice none 0 0)]) (Blk.new wr #[.int .i64 0, .int .i64 0, .int .i64 0, .int .i64 0, .int .i64 0, .int .i64 1, .int .i64 1, .string ⟨#[]⟩, (.slice none 0 0), (.slice none 0 0), .int .i64 3, .int .i64 0, .int .i64 0, .int .i64 0, .int .i64 0, .int .i64 0, .int .i64 0, .string ⟨#[]⟩, (.slice none 0 0), (.slice none 0 0)] _)⟩
   have HTW1 : Box (∀ u ∈ insL (oneN, (.slice none 0 0), (.slice none 0 0)) ++ insL (liveB, (.slice none 0 0), (.slice none 0 0)), u.oneCell' = true) := ⟨fun u hu => by
    rcases List.mem_append.1 hu with h | h
    ·exact ins_one _ ⟨_, _, _, rfl⟩ ⟨_, _, _, rfl⟩ u h
    ·exact ins_one _ ⟨_, _, _, rfl⟩ ⟨_, _, _, rfl⟩ u h⟩
   clear hown hrow
   go_wp2_with (at_builtin; refine wpList_append_own _ rfl _ _ 36 rfl (w.heap.size + 1) 45 j0 _ 10 120 Tryd.underlying36 HJ.out.1 HJ.out.2.1 HJ.out.2.2.1 HJ.out.2.2.2 rfl (by decide) (.slice AL m.length cl) m.length ((m.zip cs).flatMap insL) rfl (own_below HM.out.1 (bel1 _ _)) ⟨wr.heap.size, 0, none⟩ 2 2 (insL (oneN, (.slice none 0 0), (.slice none 0 0)) ++ insL (liveB, (.slice none 0 0), (.slice none 0 0))) rfl rfl HTWO.out HTW1.out (by unfold maxLen; omega) (by omega) (by simp; omega) ?_; intro v8 w8 hown8 hgr8 hnil8; obtain ⟨A8, c8, rfl⟩ := own_form hown8; have HO8 := Box.mk (And.intro hown8 hgr8); clear hown8 hgr8 hnil8)
   have hb8 : Below w.heap.size wr w8 := ((bel1 wr _).mono hzw).grown HO8.out.2 (by simp; omega) (fun k hk => by have := (own_bk HM.out.1 k hk).1; omega)
   have hne8 : ∀ k, (Value.slice AL m.length cl).ownBlock = some k → w.heap.size + 1 ≤ k := fun k hk => (own_bk HM.out.1 k hk).1
   have HP8 : Box (PlW w8 (w.heap.size + 1) NoP (.slice A8 (m.length + 2) c8) (m ++ [oneN, liveB])) := ⟨PlW.app (l := m) (m := [oneN, liveB]) (ds := [((.slice none 0 0), (.slice none 0 0)), ((.slice none 0 0), (.slice none 0 0))]) HM.out.2 ⟨rfl, fun i d c h1 h2 => (by
    match i with
    | 0 => simp at h1 h2; subst h1 h2; exact one_at _ _
    | 1 => simp at h1 h2; subst h1 h2; exact bin_at _ _
    | i + 2 => simp at h1)⟩ HO8.out.1 (agree_no (Nat.le_trans (bel1 wr _).size HO8.out.2.size))⟩
   have HS8 : Box (Below w.heap.size w w8 ∧ Blk w8 w.heap.size 45 #[.int .i64 0, .int .i64 0, .int .i64 0, .int .i64 0, .int .i64 0, .int .i64 1, .int .i64 1, .string ⟨#[]⟩, .slice none 0 0, .slice none 0 0]) := ⟨HS.out.1.trans hb8, (HO8.out.2.block _ (by simp; omega) (fun e => by have := hne8 _ e.symm; omega)).trans (((bel1 wr _).block _ hzl).trans HS.out.2)⟩
   clear k0 k1 k2 k3 k4 k5 k6 k7 k8 k9 hb8 hne8
   go_wp2_with fail
   go_roundw
   case rel => exact ⟨j + 1, m ++ [oneN, liveB], by go_num, by omega, by omega, ⟨HP8.out, by simp; omega, small_app HP.out.2.2 (fun d h => by simp at h; rcases h with rfl | rfl; exact oneN_small; exact liveB_small)⟩, HS8⟩
   case measure => simp [intOf]; omega
  ·have hlt2 : ¬ (j : Int) < (kk : Int) := by omega
   have HL : Box (PlanP wr AnyP (.slice AL m.length cl) m ∧ ∀ d ∈ m, SmallD d) := ⟨HP.out.1.any, HP.out.2.2⟩
   clear hlt hj1 hjk HP k0 k1 k2 k3 k4 k5 k6 k7 k8 k9
   go_wp2_with (go_at_call 17; (with_reducible refine (CM.out _).mono ?_); rintro e7 w7 ⟨rfl, rfl⟩)
   rename World => W2
   go_loopw [9, 10] (fun ov v wr => ∃ (i : Nat) (m2 : List Nd), v = .int .i64 (i : Nat) ∧ m2.length + i ≤ 206 ∧ Box (PlW wr W2.heap.size NoP ov m2 ∧ ∀ d ∈ m2, SmallD d) ∧ Box (Below W2.heap.size W2 wr)) (fun _ v _ => (intOf v).toNat)
   case atStart => exact ⟨km, [], rfl, by simp; omega, ⟨PlW.nil _ _ _, fun d h => by cases h⟩, ⟨Below.refl _ _⟩⟩
   case round =>
    obtain ⟨i, m2, rfl, hi206, HP2, HB2⟩ := hrel
    obtain ⟨AO, co, rfl, hco1, hco2⟩ := HP2.out.1.formL
    have hz2 := HB2.out.size
    by_cases hi0 : 0 < i
    ·have hi1 : (0 : Int) < (i : Int) := by omega
     have H1O : Box (Blk wr w.heap.size 45 #[.int .i64 0, .int .i64 0, .int .i64 0, .int .i64 0, .int .i64 0, .int .i64 1, .int .i64 1, .string ⟨#[]⟩, .slice none 0 0, .slice none 0 0]) := ⟨HS.out.2.below HB2.out⟩
     obtain ⟨k0, k1, k2, k3, k4, k5, k6, k7, k8, k9⟩ := blk10z (d := oneN) H1O.out
     obtain ⟨cs, hown, hrow⟩ := HP2.out.1
     have HM := Box.mk (And.intro hown hrow)
     clear hown hrow
     go_wp2_with (at_builtin; refine wpList_append_own _ rfl _ _ 36 rfl W2.heap.size 45 j0 _ 10 120 Tryd.underlying36 HJ.out.1 HJ.out.2.1 HJ.out.2.2.1 HJ.out.2.2.2 rfl (by decide) (.slice AO m2.length co) m2.length ((m2.zip cs).flatMap insL) rfl (own_below HM.out.1 (bel1 _ _)) ⟨wr.heap.size, 0, none⟩ 1 1 (insL (oneN, (.slice none 0 0), (.slice none 0 0))) rfl rfl (World.news_of_block (Blk.new _ _ _)) (ins_one _ ⟨_, _, _, rfl⟩ ⟨_, _, _, rfl⟩) (by unfold maxLen; omega) (by omega) (by simp; omega) ?_; intro v8 w8 hown8 hgr8 hnil8; obtain ⟨A8, c8, rfl⟩ := own_form hown8; have HO8 := Box.mk (And.intro hown8 hgr8); clear hown8 hgr8 hnil8)
     have hb8 : Below W2.heap.size wr w8 := ((bel1 wr _).mono hz2).grown HO8.out.2 (by simp; omega) (fun k hk => (own_bk HM.out.1 k hk).1)
     have HP8 : Box (PlW w8 W2.heap.size NoP (.slice A8 (m2.length + 1) c8) (m2 ++ [oneN])) := ⟨PlW.snoc HM.out.2 (one_at _ _) HO8.out.1 (agree_no (Nat.le_trans (bel1 wr _).size HO8.out.2.size))⟩
     have HB8 : Box (Below W2.heap.size W2 w8) := ⟨HB2.out.trans hb8⟩
     have hsub : (i : Int) - 1 = ((i - 1 : Nat) : Int) := by omega
     have HI := Box.mk hsub
     clear k0 k1 k2 k3 k4 k5 k6 k7 k8 k9 hb8 hsub
     go_wp2_with fail
     go_roundw
     case rel => exact ⟨i - 1, m2 ++ [oneN], by rw [HI.out], by simp; omega, ⟨HP8.out, small_snoc HP2.out.2 oneN_small⟩, HB8⟩
     case measure => simp [intOf]; omega
    ·have hi1 : ¬ (0 : Int) < (i : Int) := by omega
     have HBAL : Box (Calls Tryd.prog 18 #[.int .i64 (kk : Int)] wr (RetBal (2 * kk - 1) wr)) := ⟨balanced_any kk wr (by omega) (by omega)⟩
     have HA : Box (PlanP wr AnyP (.slice AL m.length cl) m ∧ PlanP wr AnyP (.slice AO m2.length co) m2 ∧ Below w.heap.size w wr) := ⟨HL.out.1.anyB HB2.out, HP2.out.1.any, bthen HS.out.1 HB2.out (Nat.le_refl _)⟩
     have HSM2 : Box (∀ d ∈ m2, SmallD d) := ⟨HP2.out.2⟩
     clear hi0 hi206 HP2 HB2 hz2 CM hco1 hco2 hcl1 hcl2
     go_wp2_with fail
     with_reducible refine (HBAL.out).mono ?_
     rintro e5 w5 ⟨mp, vp, rfl, hpp, -, -, hsp, hb5⟩
     obtain ⟨AP, cp, rfl⟩ := hpp.form
     have H5 : Box (Below w.heap.size w w5 ∧ PlanP w5 AnyP (.slice AP mp.length cp) mp ∧ PlanP w5 AnyP (.slice AL m.length cl) m ∧ PlanP w5 AnyP (.slice AO m2.length co) m2) := ⟨bthen HA.out.2.2 hb5 (Nat.le_refl _), hpp.any, HA.out.1.anyB hb5, HA.out.2.1.anyB hb5⟩
     have HSP := Box.mk hsp
     clear hpp hsp hb5 HA HBAL
     obtain ⟨er0, he0⟩ : ∃ e, (treeM mp).2 = e := ⟨_, rfl⟩
     have HE0 := Box.mk he0
     clear he0
     have hee0 : (er0 == er0) = true := by simp
     obtain ⟨er1, he1⟩ : ∃ e, (treeM m).2 = e := ⟨_, rfl⟩
     have HE1 := Box.mk he1
     clear he1
     have hee1 : (er1 == er1) = true := by simp
     obtain ⟨er2, he2⟩ : ∃ e, (treeM m2).2 = e := ⟨_, rfl⟩
     have HE2 := Box.mk he2
     clear he2
     have hee2 : (er2 == er2) = true := by simp
     have C5 : Box (Calls Tryd.prog 19 #[.slice AP mp.length cp] w5 (RetB (.int .i64 er0) w5)) := ⟨by rw [← HE0.out]; exact pcheck_any mp _ w5 H5.out.2.1 HSP.out (wordsV_g (HW.out.below H5.out.1))⟩
     go_wp2_with fail
     refine (C5.out).mono ?_
     rintro e6 w6 ⟨rfl, hb6⟩
     have H6 : Box (Below w.heap.size w w6 ∧ PlanP w6 AnyP (.slice AP mp.length cp) mp ∧ PlanP w6 AnyP (.slice AL m.length cl) m ∧ PlanP w6 AnyP (.slice AO m2.length co) m2) := ⟨bthen H5.out.1 hb6 (Nat.le_refl _), H5.out.2.1.anyB hb6, H5.out.2.2.1.anyB hb6, H5.out.2.2.2.anyB hb6⟩
     clear hb6 C5 H5
     have C6 : Box (Calls Tryd.prog 20 #[.slice AP mp.length cp] w6 (RetB (.int .i64 er0) w6)) := ⟨by rw [← HE0.out]; exact rpcheck_any mp _ w6 H6.out.2.1⟩
     go_wp2_with fail
     refine (C6.out).mono ?_
     rintro e7 w7 ⟨rfl, hb7⟩
     have H7 : Box (Below w.heap.size w w7 ∧ PlanP w7 AnyP (.slice AP mp.length cp) mp ∧ PlanP w7 AnyP (.slice AL m.length cl) m ∧ PlanP w7 AnyP (.slice AO m2.length co) m2) := ⟨bthen H6.out.1 hb7 (Nat.le_refl _), H6.out.2.1.anyB hb7, H6.out.2.2.1.anyB hb7, H6.out.2.2.2.anyB hb7⟩
     clear hb7 C6 H6
     have C7 : Box (Calls Tryd.prog 19 #[.slice AL m.length cl] w7 (RetB (.int .i64 er1) w7)) := ⟨by rw [← HE1.out]; exact pcheck_any m _ w7 H7.out.2.2.1 HL.out.2 (wordsV_g (HW.out.below H7.out.1))⟩
     go_wp2_with fail
     refine (C7.out).mono ?_
     rintro e8 w8 ⟨rfl, hb8⟩
     have H8 : Box (Below w.heap.size w w8 ∧ PlanP w8 AnyP (.slice AP mp.length cp) mp ∧ PlanP w8 AnyP (.slice AL m.length cl) m ∧ PlanP w8 AnyP (.slice AO m2.length co) m2) := ⟨bthen H7.out.1 hb8 (Nat.le_refl _), H7.out.2.1.anyB hb8, H7.out.2.2.1.anyB hb8, H7.out.2.2.2.anyB hb8⟩
     clear hb8 C7 H7
     have C8 : Box (Calls Tryd.prog 20 #[.slice AL m.length cl] w8 (RetB (.int .i64 er1) w8)) := ⟨by rw [← HE1.out]; exact rpcheck_any m _ w8 H8.out.2.2.1⟩
     go_wp2_with fail
     refine (C8.out).mono ?_
     rintro e9 w9 ⟨rfl, hb9⟩
     have H9 : Box (Below w.heap.size w w9 ∧ PlanP w9 AnyP (.slice AP mp.length cp) mp ∧ PlanP w9 AnyP (.slice AL m.length cl) m ∧ PlanP w9 AnyP (.slice AO m2.length co) m2) := ⟨bthen H8.out.1 hb9 (Nat.le_refl _), H8.out.2.1.anyB hb9, H8.out.2.2.1.anyB hb9, H8.out.2.2.2.anyB hb9⟩
     clear hb9 C8 H8
     have C9 : Box (Calls Tryd.prog 19 #[.slice AO m2.length co] w9 (RetB (.int .i64 er2) w9)) := ⟨by rw [← HE2.out]; exact pcheck_any m2 _ w9 H9.out.2.2.2 HSM2.out (wordsV_g (HW.out.below H9.out.1))⟩
     go_wp2_with fail
     refine (C9.out).mono ?_
     rintro e10 w10 ⟨rfl, hb10⟩
     have H10 : Box (Below w.heap.size w w10 ∧ PlanP w10 AnyP (.slice AP mp.length cp) mp ∧ PlanP w10 AnyP (.slice AL m.length cl) m ∧ PlanP w10 AnyP (.slice AO m2.length co) m2) := ⟨bthen H9.out.1 hb10 (Nat.le_refl _), H9.out.2.1.anyB hb10, H9.out.2.2.1.anyB hb10, H9.out.2.2.2.anyB hb10⟩
     clear hb10 C9 H9
     have C10 : Box (Calls Tryd.prog 20 #[.slice AO m2.length co] w10 (RetB (.int .i64 er2) w10)) := ⟨by rw [← HE2.out]; exact rpcheck_any m2 _ w10 H10.out.2.2.2⟩
     go_wp2_with fail
     refine (C10.out).mono ?_
     rintro e11 w11 ⟨rfl, hb11⟩
     have H11 : Box (Below w.heap.size w w11 ∧ PlanP w11 AnyP (.slice AP mp.length cp) mp ∧ PlanP w11 AnyP (.slice AL m.length cl) m ∧ PlanP w11 AnyP (.slice AO m2.length co) m2) := ⟨bthen H10.out.1 hb11 (Nat.le_refl _), H10.out.2.1.anyB hb11, H10.out.2.2.1.anyB hb11, H10.out.2.2.2.anyB hb11⟩
     clear hb11 C10 H10
     go_wp2_with fail
     refine (plives_true w11 (HW.out.below H11.out.1)).mono ?_
     rintro eL wL ⟨rfl, hbL⟩
     have HBL : Box (Below w.heap.size w wL) := ⟨bthen H11.out.1 hbL (Nat.le_refl _)⟩
     clear hbL H11
     go_wp2_with fail
     go_ret
     exact ⟨rfl, HBL.out⟩
end
end Go.Proofs.YtipafbppaaflcaaDoor
