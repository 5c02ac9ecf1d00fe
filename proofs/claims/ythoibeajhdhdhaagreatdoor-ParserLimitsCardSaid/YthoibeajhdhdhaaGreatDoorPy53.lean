/- Contracts, packed: Ov Ow. -/
import Derived.Test.YthoibeajhdhdhaaGreatDoorPy52
set_option linter.unusedVariables false
set_option linter.unusedSimpArgs false
namespace Go.Proofs.YthoibeajhdhdhaaGreatDoor
section
open Go.RowKit FracM
theorem Ints.toPv {w : World} {v : Value} {l : List Int} (h : Ints w w.heap.size v l) : IntsP w v l := by
 obtain ⟨⟨h1, A, c, hv, hn, hc, hx⟩, hz⟩ := h
 refine ⟨⟨h1, A, c, hv, hn, hc, fun h0 => ?_⟩, hz⟩
 obtain ⟨b, off, hA, hf, hcl⟩ := hx h0
 exact ⟨b, off, hA, hf.1, hf.1, hcl⟩
set_option maxHeartbeats 8000000 in
set_option maxRecDepth 100000 in
theorem parserParses_walk (AL : Option Addr) (nl cl : Nat) (ll : List Int) (at' how c by' : Int) (w : World) (hw : LibP w) (h1 : Ints w w.heap.size (.slice AL nl cl) ll)
  (a1 : -9223372036854775808 ≤ at') (a2 : at' ≤ 9223372036854775807) (b1 : -9223372036854775808 ≤ how) (b2 : how ≤ 9223372036854775807) (c1 : 0 ≤ c) (c2 : c ≤ 255) (d1 : -9223372036854775808 ≤ by') (d2 : by' ≤ 9223372036854775807) :
  Calls Tryz.prog 3 #[.slice AL nl cl, .int .i64 at', .int .i64 how, .int .u8 c, .int .i64 by'] w fun e w' => e = .returned (.bool true) ∧ Below w.heap.size w w' := by
 have HW := Box.mk hw
 have HL := Box.mk h1.toPv
 have HI := Box.mk (And.intro (And.intro a1 a2) (And.intro (And.intro b1 b2) (And.intro (And.intro c1 c2) (And.intro d1 d2))))
 clear hw h1 a1 a2 b1 b2 c1 c2 d1 d2
 go_enter Tryz.func3, Tryz.ntmps3
 go_wp2_with fail
 refine (expr0_any _ ll _ HL.out).mono ?_
 rintro e0 w1 ⟨t1, s1, rfl, htree, hgt, hdp, hnd, hb1⟩
 obtain ⟨xd, xs⟩ := t1
 obtain ⟨q1, q2, q3⟩ := s1
 obtain ⟨A1, a1, rfl, -⟩ := htree.form.1
 obtain ⟨A2, a2, rfl, -⟩ := htree.form.2.1
 obtain ⟨A3, a3, rfl, -⟩ := htree.form.2.2
 simp only [Tree.d]
 have HG : Box (chk (.node xd xs) = 0 ∧ prtB (.node xd xs) = true ∧ nds (.node xd xs) ≤ 15) := ⟨good_chk ns6_ok (by omega) hgt, prt_nat _ (good_show ns6_ok (by omega) hgt).2, hnd⟩
 have HZ : Box ((showT (.node xd xs)).length ≤ 9200 ∧ (showR true (.node xd xs) 1).length ≤ 9200) := ⟨by
  have h1 := showR_len false (.node xd xs) HG.out.1 1
  have h2 := showR_len true (.node xd xs) HG.out.1 1
  rw [showR_top HG.out.1] at h1
  have := HG.out.2.2
  omega⟩
 have HB2 : Box (Below w.heap.size w (w1.alloc (.cells (ndC xd (.slice A1 xd.ms.length a1) (.slice A2 xd.bys.length a2) (.slice A3 xs.length a3)) 29)) ∧ TB (w1.alloc (.cells (ndC xd (.slice A1 xd.ms.length a1) (.slice A2 xd.bys.length a2) (.slice A3 xs.length a3)) 29)) w1.heap.size (.node xd xs) (.slice A1 xd.ms.length a1, .slice A2 xd.bys.length a2, .slice A3 xs.length a3)) := by
  obtain ⟨L, h⟩ := htree
  exact ⟨bthen hb1 (bel1 _ _) (Nat.le_refl _), TB.new (h.tree.mono fun _ _ _ _ => trivial)⟩
 clear htree hgt hdp hnd hb1 HL
 go_upto_region 2 with (fail)
 generalize hgx : w1.heap.size = gx at *
 generalize (w1.alloc (.cells (ndC xd (.slice A1 xd.ms.length a1) (.slice A2 xd.bys.length a2) (.slice A3 xs.length a3)) 29)) = W1 at HB2 ⊢
 clear hgx
 obtain ⟨k0, k1, k2, k3, k4, k5, k6, k7, k8, k9, k10⟩ := blk11z (d := xd) HB2.out.2.box
 go_wp2_with fail
 refine (rshow0_any (.node xd xs) AnyP _ (.slice A1 xd.ms.length a1, .slice A2 xd.bys.length a2, .slice A3 xs.length a3) HB2.out.2.tr HG.out.1 HG.out.2.1 (by have := HG.out.2.2; omega)).mono ?_
 rintro e w3 ⟨rfl, hb⟩
 clear k0 k1 k2 k3 k4 k5 k6 k7 k8 k9 k10
 have HB3 : Box (Below w.heap.size w w3 ∧ TB w3 gx (.node xd xs) (.slice A1 xd.ms.length a1, .slice A2 xd.bys.length a2, .slice A3 xs.length a3)) := ⟨bthen HB2.out.1 hb (Nat.le_refl _), HB2.out.2.next hb⟩
 clear hb HB2
 obtain ⟨z, HS⟩ : ∃ z, Box (bsL (showT (.node xd xs)) = z) := ⟨_, ⟨rfl⟩⟩
 have HSZ : Box (z.size ≤ 9200) := ⟨by rw [← HS.out, bsL_sz]; exact HZ.out.1⟩
 rw [HS.out]
 go_wp2_with fail
 refine (agrees_any _ _ (by unfold maxLen; have := HSZ.out; omega) (HW.out.below HB3.out.1).v).mono ?_
 rintro e w4 ⟨rfl, hb⟩
 have HB4 : Box (Below w.heap.size w w4 ∧ TB w4 gx (.node xd xs) (.slice A1 xd.ms.length a1, .slice A2 xd.bys.length a2, .slice A3 xs.length a3)) := ⟨bthen HB3.out.1 hb (Nat.le_refl _), HB3.out.2.next hb⟩
 clear hb HB3
 go_wp2_with fail
 refine (mutated_any z at' how c _ (by have := HSZ.out; omega) HI.out.1.1 HI.out.1.2 HI.out.2.1.1 HI.out.2.1.2 HI.out.2.2.1.1 HI.out.2.2.1.2).mono ?_
 rintro e w5 ⟨u, rfl, hu, hb⟩
 have HU := Box.mk hu
 clear hu
 have HB5 : Box (Below w.heap.size w w5 ∧ TB w5 gx (.node xd xs) (.slice A1 xd.ms.length a1, .slice A2 xd.bys.length a2, .slice A3 xs.length a3)) := ⟨bthen HB4.out.1 hb (Nat.le_refl _), HB4.out.2.next hb⟩
 clear hb HB4
 go_wp2_with fail
 refine (agrees_any _ _ (by unfold maxLen; have := HU.out; omega) (HW.out.below HB5.out.1).v).mono ?_
 rintro e w6 ⟨rfl, hb⟩
 have HB6 : Box (Below w.heap.size w w6 ∧ TB w6 gx (.node xd xs) (.slice A1 xd.ms.length a1, .slice A2 xd.bys.length a2, .slice A3 xs.length a3)) := ⟨bthen HB5.out.1 hb (Nat.le_refl _), HB5.out.2.next hb⟩
 clear hb HB5
 go_wp2_with fail
 refine (swapped_any z at' by' _ (by unfold maxLen; have := HSZ.out; omega) HI.out.1.1 HI.out.1.2 HI.out.2.2.2.1 HI.out.2.2.2.2).mono ?_
 rintro e w7 ⟨v, rfl, hv, hb⟩
 have HV := Box.mk hv
 clear hv
 have HB7 : Box (Below w.heap.size w w7 ∧ TB w7 gx (.node xd xs) (.slice A1 xd.ms.length a1, .slice A2 xd.bys.length a2, .slice A3 xs.length a3)) := ⟨bthen HB6.out.1 hb (Nat.le_refl _), HB6.out.2.next hb⟩
 clear hb HB6
 go_wp2_with fail
 refine (agrees_any _ _ (by unfold maxLen; have := HV.out; have := HSZ.out; omega) (HW.out.below HB7.out.1).v).mono ?_
 rintro e w8 ⟨rfl, hb⟩
 have HB8 : Box (Below w.heap.size w w8 ∧ TB w8 gx (.node xd xs) (.slice A1 xd.ms.length a1, .slice A2 xd.bys.length a2, .slice A3 xs.length a3)) := ⟨bthen HB7.out.1 hb (Nat.le_refl _), HB7.out.2.next hb⟩
 clear hb HB7
 obtain ⟨k0, k1, k2, k3, k4, k5, k6, k7, k8, k9, k10⟩ := blk11z (d := xd) HB8.out.2.box
 go_wp2_with fail
 refine (rloose_any (.node xd xs) AnyP _ (.slice A1 xd.ms.length a1, .slice A2 xd.bys.length a2, .slice A3 xs.length a3) HB8.out.2.tr HG.out.1 HG.out.2.1 (by have := HG.out.2.2; omega)).mono ?_
 rintro e w9 ⟨rfl, hb⟩
 clear k0 k1 k2 k3 k4 k5 k6 k7 k8 k9 k10
 have HB9 : Box (Below w.heap.size w w9 ∧ TB w9 gx (.node xd xs) (.slice A1 xd.ms.length a1, .slice A2 xd.bys.length a2, .slice A3 xs.length a3)) := ⟨bthen HB8.out.1 hb (Nat.le_refl _), HB8.out.2.next hb⟩
 clear hb HB8
 obtain ⟨y, HY⟩ : ∃ y, Box (bsL (showR true (.node xd xs) 1) = y) := ⟨_, ⟨rfl⟩⟩
 have HYZ : Box (y.size ≤ 9200) := ⟨by rw [← HY.out, bsL_sz]; exact HZ.out.2⟩
 rw [HY.out]
 go_wp2_with fail
 refine (agrees_any _ _ (by unfold maxLen; have := HYZ.out; omega) (HW.out.below HB9.out.1).v).mono ?_
 rintro e w10 ⟨rfl, hb⟩
 have HB10 : Box (Below w.heap.size w w10 ∧ TB w10 gx (.node xd xs) (.slice A1 xd.ms.length a1, .slice A2 xd.bys.length a2, .slice A3 xs.length a3)) := ⟨bthen HB9.out.1 hb (Nat.le_refl _), HB9.out.2.next hb⟩
 clear hb HB9
 go_wp2_with fail
 refine (lives_true _ (HW.out.below HB10.out.1)).mono ?_
 rintro e w11 ⟨rfl, hb⟩
 have hbf := bthen HB10.out.1 hb (Nat.le_refl _)
 go_wp2_with fail
 go_ret
 exact ⟨rfl, hbf⟩
end
section
open Go.RowKit FracM
theorem decS_any (n : Int) (w : World) (h1 : -9223372036854775808 ≤ n) (h2 : n ≤ 9223372036854775807) : Calls Tryz.prog 19 #[.int .i64 n] w fun e w' => ∃ t : ByteArray, e = .returned (.string t) ∧ t.size ≤ 21 ∧ w = w' :=
 (deci_ib (b := bsL (Lib.itoa n)) rfl w h1 h2).mono fun e w' ⟨he, hw⟩ => ⟨_, he, by rw [bsL_sz]; exact itoa_sz n h1 h2, hw.symm⟩
set_option maxHeartbeats 4000000 in
set_option maxRecDepth 100000 in
theorem nested_any (n : Nat) (how : Int) (w : World) (hn : n ≤ 20) (h1 : -9223372036854775808 ≤ how) (h2 : how ≤ 9223372036854775807) : Calls Tryz.prog 21 #[.int .i64 (n : Int), .int .i64 how] w (RetTx 200 w) := by
 obtain ⟨q0, q1⟩ := around_bd how 4 (by omega)
 obtain ⟨q, HQ⟩ : ∃ q, Box (around how 4 = q) := ⟨_, ⟨rfl⟩⟩
 rw [HQ.out] at q0 q1
 have HA := Box.mk (And.intro h1 h2)
 clear h1 h2
 go_enter Tryz.func21, Tryz.ntmps21
 go_wp2_with fail
 go_loopw [5, 6] (fun s i wr => ∃ (t : ByteArray) (k : Nat), s = .string t ∧ i = .int .i64 (k : Int) ∧ t.size ≤ 1 + 5 * k ∧ k ≤ n ∧ w = wr) (fun _ i _ => n - (intOf i).toNat)
 case atStart => exact ⟨_, 0, rfl, rfl, by decide, by omega, rfl⟩
 case round =>
  obtain ⟨t, k, rfl, rfl, ht, hk, rfl⟩ := hrel
  have ht2 : t.size ≤ 101 := by omega
  by_cases hlt : k < n
  ·have hlt2 : (k : Int) < (n : Int) := by omega
   go_wp2_with fail
   refine (around_any how 4 _ HA.out.1 HA.out.2 (by omega) (by omega)).mono ?_
   rintro e w' ⟨rfl, rfl⟩
   rw [HQ.out]
   have hqq : q = 0 ∨ q = 1 ∨ q = 2 ∨ q = 3 := by omega
   have HT := Box.mk ht
   clear q0 q1 ht
   rcases hqq with rfl | rfl | rfl | rfl
   all_goals
    go_wp2_with fail
    go_roundw
    case rel => exact ⟨_, k + 1, rfl, by go_num, (by have hq : ∀ l : Array UInt8, (⟨l⟩ : ByteArray).size = l.size := fun _ => rfl; have z0 := HT.out; (try unfold maxLen); (repeat rw [ByteArray.size_append]); (try simp only [hq, List.size_toArray, List.length_cons, List.length_nil] at *); omega), by omega, by first | rfl | trivial⟩
    case measure => simp [intOf]; omega
  ·have hlt2 : ¬ (k : Int) < (n : Int) := by omega
   go_wp2_with fail
   go_ret
   exact ⟨t, rfl, by omega, Below.refl _ _⟩
set_option maxHeartbeats 4000000 in
set_option maxRecDepth 100000 in
theorem wide_any : ∀ (n : Nat), 1 ≤ n → n ≤ 1000 → ∀ w : World, Calls Tryz.prog 22 #[.int .i64 (n : Int)] w (RetTx (4 * n - 3) w) := by
 intro n
 induction n using Nat.strongRecOn with
 | _ n ih =>
  intro h1 hn w
  by_cases hle : n ≤ 1
  ·have hle2 : (n : Int) ≤ 1 := by omega
   go_enter Tryz.func22, Tryz.ntmps22
   go_wp2_with fail
   go_ret
   exact ⟨_, rfl, by show 1 ≤ 4 * n - 3; omega, Below.refl _ _⟩
  ·have hle2 : ¬ (n : Int) ≤ 1 := by omega
   obtain ⟨m, HM⟩ : ∃ m : Nat, Box (n / 2 = m) := ⟨_, ⟨rfl⟩⟩
   have hm : 1 ≤ m ∧ m < n ∧ 1 ≤ n - m ∧ n - m < n := by have := HM.out; omega
   have hdv : (n : Int).tdiv 2 = (m : Int) := by rw [← HM.out]; rfl
   have C1 : Box (∀ W, Calls Tryz.prog 22 #[.int .i64 (m : Int)] W (RetTx (4 * m - 3) W)) := ⟨fun W => ih m (by omega) (by omega) (by omega) W⟩
   have C2 : Box (∀ W, Calls Tryz.prog 22 #[.int .i64 ((n : Int) - (m : Int))] W (RetTx (4 * (n - m) - 3) W)) := ⟨fun W => by
    have h := ih (n - m) (by omega) (by omega) (by omega) W
    rw [show ((n - m : Nat) : Int) = (n : Int) - (m : Int) by omega] at h
    exact h⟩
   clear ih hle
   go_enter Tryz.func22, Tryz.ntmps22
   go_wp2_with fail
   (with_reducible refine (C1.out _).mono ?_)
   rintro e w1 ⟨t1, rfl, hs1, hb1⟩
   have hs1' : t1.size ≤ 4000 := by omega
   have HB1 := Box.mk hb1
   have HS1 := Box.mk hs1
   clear hb1 hs1
   go_wp2_with fail
   (with_reducible refine (C2.out _).mono ?_)
   rintro e w2 ⟨t2, rfl, hs2, hb2⟩
   have hs2' : t2.size ≤ 4000 := by omega
   have HB2 := Box.mk (bthen HB1.out hb2 (Nat.le_refl _))
   have HS2 := Box.mk hs2
   clear hb2 hs2
   go_wp2_with fail
   go_ret
   exact ⟨_, rfl, (by have hq : ∀ l : Array UInt8, (⟨l⟩ : ByteArray).size = l.size := fun _ => rfl; have z0 := HS1.out; have z1 := HS2.out; (try unfold maxLen); (repeat rw [ByteArray.size_append]); (try simp only [hq, List.size_toArray, List.length_cons, List.length_nil] at *); omega), HB2.out⟩
set_option maxHeartbeats 8000000 in
set_option maxRecDepth 100000 in
theorem parserLimits_walk (n how near : Int) (w : World) (hw : LibP w) (a1 : -9223372036854775808 ≤ n) (a2 : n ≤ 9223372036854775807) (b1 : -9223372036854775808 ≤ how) (b2 : how ≤ 9223372036854775807) (c1 : -9223372036854775808 ≤ near) (c2 : near ≤ 9223372036854775807) :
  Calls Tryz.prog 5 #[.int .i64 n, .int .i64 how, .int .i64 near] w fun e w' => e = .returned (.bool true) ∧ Below w.heap.size w w' := by
 obtain ⟨q0, q1⟩ := around_bd n 11 (by omega)
 obtain ⟨K, HK⟩ : ∃ K : Nat, Box (around n 11 = (K : Int)) := ⟨(around n 11).toNat, ⟨by omega⟩⟩
 rw [HK.out] at q0 q1
 have hK : K ≤ 10 := by omega
 have HW := Box.mk hw
 have HI := Box.mk (And.intro (And.intro a1 a2) (And.intro (And.intro b1 b2) (And.intro c1 c2)))
 clear hw a1 a2 b1 b2 c1 c2 q0 q1
 go_enter Tryz.func5, Tryz.ntmps5
 go_wp2_with fail
 refine (around_any n 11 _ HI.out.1.1 HI.out.1.2 (by omega) (by omega)).mono ?_
 rintro e w' ⟨rfl, rfl⟩
 rw [HK.out]
 go_wp2_with fail
 go_loopw [8, 9, 10] (fun a b i wr => ∃ (x y : ByteArray) (k : Nat), a = .string x ∧ b = .string y ∧ i = .int .i64 (k : Int) ∧ x.size ≤ 40 * k ∧ y.size ≤ 40 * k ∧ k ≤ K ∧ w = wr) (fun _ _ i _ => K - (intOf i).toNat)
 case atStart => exact ⟨_, _, 0, rfl, rfl, rfl, by decide, by decide, by omega, rfl⟩
 case round =>
  obtain ⟨x, y, k, rfl, rfl, rfl, hx, hy, hk, rfl⟩ := hrel
  have hx2 : x.size ≤ 400 := by omega
  have hy2 : y.size ≤ 400 := by omega
  have HX := Box.mk (And.intro hx hy)
  clear hx hy
  by_cases hlt : k < K
  ·have hlt2 : (k : Int) < (K : Int) := by omega
   go_upto_if 21 with (fail)
   go_cut [8, 9] (fun a b wx => ∃ x' y' : ByteArray, a = .string x' ∧ b = .string y' ∧ x'.size ≤ x.size + 1 ∧ y'.size ≤ y.size + 1 ∧ w = wx)
   case first =>
    by_cases hk0 : (k : Int) > 0
    ·go_wp2_with fail
     go_meet
     exact ⟨_, _, rfl, rfl, (by have hq : ∀ l : Array UInt8, (⟨l⟩ : ByteArray).size = l.size := fun _ => rfl; (try unfold maxLen); (repeat rw [ByteArray.size_append]); (try simp only [hq, List.size_toArray, List.length_cons, List.length_nil] at *); omega), (by have hq : ∀ l : Array UInt8, (⟨l⟩ : ByteArray).size = l.size := fun _ => rfl; (try unfold maxLen); (repeat rw [ByteArray.size_append]); (try simp only [hq, List.size_toArray, List.length_cons, List.length_nil] at *); omega), rfl⟩
    ·go_wp2_with fail
     go_meet
     exact ⟨_, _, rfl, rfl, by omega, by omega, rfl⟩
   case rest =>
    obtain ⟨x', y', rfl, rfl, hx', hy', rfl⟩ := hcut
    have hx3 : x'.size ≤ 401 := by omega
    have hy3 : y'.size ≤ 401 := by omega
    have HX2 := Box.mk (And.intro hx' hy')
    clear hx' hy'
    go_wp2_with fail
    refine (decS_any (k : Int) _ (by omega) (by omega)).mono ?_
    rintro e w' ⟨t, rfl, ht, rfl⟩
    go_wp2_with fail
    go_roundw
    case rel => exact ⟨_, _, k + 1, rfl, rfl, by go_num, (by have hq : ∀ l : Array UInt8, (⟨l⟩ : ByteArray).size = l.size := fun _ => rfl; have z0 := HX.out.1; have z1 := HX2.out.1; (try unfold maxLen); (repeat rw [ByteArray.size_append]); (try simp only [hq, List.size_toArray, List.length_cons, List.length_nil] at *); omega), (by have hq : ∀ l : Array UInt8, (⟨l⟩ : ByteArray).size = l.size := fun _ => rfl; have z0 := HX.out.2; have z1 := HX2.out.2; (try unfold maxLen); (repeat rw [ByteArray.size_append]); (try simp only [hq, List.size_toArray, List.length_cons, List.length_nil] at *); omega), by omega, by first | rfl | trivial⟩
    case measure => simp [intOf]; omega
  ·have hlt2 : ¬ (k : Int) < (K : Int) := by omega
   obtain ⟨p0, p1⟩ := bound_bd near 2 (by omega)
   obtain ⟨B, HBD⟩ : ∃ B, Box (bound near 2 = B) := ⟨_, ⟨rfl⟩⟩
   rw [HBD.out] at p0 p1
   obtain ⟨r0, r1⟩ := around_bd near 3 (by omega)
   obtain ⟨R, HR⟩ : ∃ R, Box (around near 3 = R) := ⟨_, ⟨rfl⟩⟩
   rw [HR.out] at r0 r1
   obtain ⟨s0, s1⟩ := around_bd n 6 (by omega)
   obtain ⟨S6, HS6⟩ : ∃ S6 : Nat, Box (around n 6 = (S6 : Int)) := ⟨(around n 6).toNat, ⟨by omega⟩⟩
   rw [HS6.out] at s0 s1
   have CW : Box (∀ W, Calls Tryz.prog 22 #[.int .i64 (98 + (S6 : Int))] W (RetTx 500 W)) := ⟨fun W => by
    have h := wide_any (98 + S6) (by omega) (by omega) W
    rw [show ((98 + S6 : Nat) : Int) = 98 + (S6 : Int) by omega] at h
    exact h.mono fun e w' ⟨t, he, ht, hb⟩ => ⟨t, he, by omega, hb⟩⟩
   have CN : Box (∀ W, Calls Tryz.prog 21 #[.int .i64 ((K : Int) + 4), .int .i64 how] W (RetTx 200 W)) := ⟨fun W => by
    have h := nested_any (K + 4) how W (by omega) HI.out.2.1.1 HI.out.2.1.2
    rw [show ((K + 4 : Nat) : Int) = (K : Int) + 4 by omega] at h
    exact h⟩
   obtain rfl : k = K := by omega
   clear hk hlt
   go_upto_region 12 with (fail)
   go_wp2_with fail
   refine (bound_any near 2 _ HI.out.2.2.1 HI.out.2.2.2 (by omega) (by omega)).mono ?_
   rintro e w' ⟨rfl, rfl⟩
   rw [HBD.out]
   go_wp2_with fail
   refine (decS_any (4096 + B) _ (by omega) (by omega)).mono ?_
   rintro e w' ⟨d, rfl, hd, rfl⟩
   go_wp2_with fail
   refine (around_any near 3 _ HI.out.2.2.1 HI.out.2.2.2 (by omega) (by omega)).mono ?_
   rintro e w' ⟨rfl, rfl⟩
   rw [HR.out]
   go_wp2_with fail
   refine (decS_any R _ (by omega) (by omega)).mono ?_
   rintro e w' ⟨g, rfl, hg, rfl⟩
   have HB0 : Box (Below w.heap.size w w) := ⟨Below.refl _ _⟩
   go_wp2_with fail
   refine (agrees_any _ _ (by have hq : ∀ l : Array UInt8, (⟨l⟩ : ByteArray).size = l.size := fun _ => rfl; (try unfold maxLen); (repeat rw [ByteArray.size_append]); (try simp only [hq, List.size_toArray, List.length_cons, List.length_nil] at *); omega) (HW.out.below HB0.out).v).mono ?_
   rintro e w21 ⟨rfl, hb⟩
   have HB1 := Box.mk (bthen HB0.out hb (Nat.le_refl _))
   clear hb HB0
   go_wp2_with fail
   refine (agrees_any _ _ (by have hq : ∀ l : Array UInt8, (⟨l⟩ : ByteArray).size = l.size := fun _ => rfl; (try unfold maxLen); (repeat rw [ByteArray.size_append]); (try simp only [hq, List.size_toArray, List.length_cons, List.length_nil] at *); omega) (HW.out.below HB1.out).v).mono ?_
   rintro e w22 ⟨rfl, hb⟩
   have HB2 := Box.mk (bthen HB1.out hb (Nat.le_refl _))
   clear hb HB1
   go_wp2_with fail
   refine (agrees_any _ _ (by have hq : ∀ l : Array UInt8, (⟨l⟩ : ByteArray).size = l.size := fun _ => rfl; (try unfold maxLen); (repeat rw [ByteArray.size_append]); (try simp only [hq, List.size_toArray, List.length_cons, List.length_nil] at *); omega) (HW.out.below HB2.out).v).mono ?_
   rintro e w23 ⟨rfl, hb⟩
   have HB3 := Box.mk (bthen HB2.out hb (Nat.le_refl _))
   clear hb HB2
   go_wp2_with fail
   refine (agrees_any _ _ (by have hq : ∀ l : Array UInt8, (⟨l⟩ : ByteArray).size = l.size := fun _ => rfl; (try unfold maxLen); (repeat rw [ByteArray.size_append]); (try simp only [hq, List.size_toArray, List.length_cons, List.length_nil] at *); omega) (HW.out.below HB3.out).v).mono ?_
   rintro e w24 ⟨rfl, hb⟩
   have HB4 := Box.mk (bthen HB3.out hb (Nat.le_refl _))
   clear hb HB3
   go_wp2_with fail
   (with_reducible refine (CN.out _).mono ?_)
   rintro e w30 ⟨u, rfl, hu, hb⟩
   have HB5 := Box.mk (bthen HB4.out hb (Nat.le_refl _))
   clear hb HB4
   go_wp2_with fail
   refine (agrees_any _ _ (by have hq : ∀ l : Array UInt8, (⟨l⟩ : ByteArray).size = l.size := fun _ => rfl; (try unfold maxLen); (repeat rw [ByteArray.size_append]); (try simp only [hq, List.size_toArray, List.length_cons, List.length_nil] at *); omega) (HW.out.below HB5.out).v).mono ?_
   rintro e w26 ⟨rfl, hb⟩
   have HB6 := Box.mk (bthen HB5.out hb (Nat.le_refl _))
   clear hb HB5
   go_wp2_with fail
   refine (around_any n 6 _ HI.out.1.1 HI.out.1.2 (by omega) (by omega)).mono ?_
   rintro e w' ⟨rfl, rfl⟩
   rw [HS6.out]
   go_wp2_with fail
   (with_reducible refine (CW.out _).mono ?_)
   rintro e w31 ⟨v, rfl, hv, hb⟩
   have HB7 := Box.mk (bthen HB6.out hb (Nat.le_refl _))
   clear hb HB6
   go_wp2_with fail
   refine (agrees_any _ _ (by have hq : ∀ l : Array UInt8, (⟨l⟩ : ByteArray).size = l.size := fun _ => rfl; (try unfold maxLen); (repeat rw [ByteArray.size_append]); (try simp only [hq, List.size_toArray, List.length_cons, List.length_nil] at *); omega) (HW.out.below HB7.out).v).mono ?_
   rintro e w28 ⟨rfl, hb⟩
   have HB8 := Box.mk (bthen HB7.out hb (Nat.le_refl _))
   clear hb HB7
   go_wp2_with fail
   refine (agrees_any _ _ (by have hq : ∀ l : Array UInt8, (⟨l⟩ : ByteArray).size = l.size := fun _ => rfl; (try unfold maxLen); (repeat rw [ByteArray.size_append]); (try simp only [hq, List.size_toArray, List.length_cons, List.length_nil] at *); omega) (HW.out.below HB8.out).v).mono ?_
   rintro e w29 ⟨rfl, hb⟩
   have HB9 := Box.mk (bthen HB8.out hb (Nat.le_refl _))
   clear hb HB8
   go_wp2_with fail
   refine (agrees_any _ _ (by have hq : ∀ l : Array UInt8, (⟨l⟩ : ByteArray).size = l.size := fun _ => rfl; (try unfold maxLen); (repeat rw [ByteArray.size_append]); (try simp only [hq, List.size_toArray, List.length_cons, List.length_nil] at *); omega) (HW.out.below HB9.out).v).mono ?_
   rintro e w30 ⟨rfl, hb⟩
   have HB10 := Box.mk (bthen HB9.out hb (Nat.le_refl _))
   clear hb HB9
   go_wp2_with fail
   refine (lives_true _ (HW.out.below HB10.out)).mono ?_
   rintro e w40 ⟨rfl, hb⟩
   have hbf := bthen HB10.out hb (Nat.le_refl _)
   go_wp2_with fail
   go_ret
   exact ⟨rfl, hbf⟩
end
end Go.Proofs.YthoibeajhdhdhaaGreatDoor
