/- FracKept: the walk. -/
import Derived.Test.YtinbfdfgebiaeaaDoorHi
import Derived.Test.YtinbfdfgebiaeaaDoorHk
import Derived.Test.YtinbfdfgebiaeaaDoorTc
import Derived.Test.YtinbfdfgebiaeaaDoorGo
import Derived.Test.YtinbfdfgebiaeaaDoorFp
import Derived.Test.YtinbfdfgebiaeaaDoorFl
import Derived.Deep.RegionHeld3
set_option linter.unusedVariables false
set_option linter.unusedSimpArgs false
namespace Go.Proofs.YtinbfdfgebiaeaaDoor
open Go.RowKit FracM

/-- two fractions of the call's own -/
structure LS (w W : World) (A1 A2 : Nat) (a b c d : Int) : Prop where
  below : Below w.heap.size w W
  b1 : Blk W A1 24 #[.int .i64 a, .int .i64 b]
  b2 : Blk W A2 24 #[.int .i64 c, .int .i64 d]
  g1 : w.heap.size ≤ A1
  g2 : w.heap.size ≤ A2
theorem LS.next {w W W' : World} {A1 A2 : Nat} {a b c d : Int} (h : LS w W A1 A2 a b c d) (f : Below W.heap.size W W') : LS w W' A1 A2 a b c d := ⟨bthen h.below f (Nat.le_refl _), h.b1.below f, h.b2.below f, h.g1, h.g2⟩
theorem LS.fw {w W W' : World} {A1 A2 g B : Nat} {a b c d : Int} (h : LS w W A1 A2 a b c d) (f : FW g B W W') (h1 : A1 < B) (h2 : A2 < B) (n1 : A1 ≠ g) (n2 : A2 ≠ g) (hg : w.heap.size ≤ g) : LS w W' A1 A2 a b c d :=
  ⟨h.below.trans ⟨f.os, f.tape, f.output, f.size, fun k hk => f.block k (by have := h.g1; omega) (by omega)⟩, (f.block A1 h1 n1).trans h.b1, (f.block A2 h2 n2).trans h.b2, h.g1, h.g2⟩
theorem LS.cells {w W : World} {A1 A2 : Nat} {a b c d : Int} (h : LS w W A1 A2 a b c d) : W.cell? ⟨A1, 0, none⟩ = some (.int .i64 a) ∧ W.cell? ⟨A1, 1, none⟩ = some (.int .i64 b) ∧ W.cell? ⟨A2, 0, none⟩ = some (.int .i64 c) ∧ W.cell? ⟨A2, 1, none⟩ = some (.int .i64 d) := ⟨h.b1.c2.1, h.b1.c2.2, h.b2.c2.1, h.b2.c2.2⟩
theorem textF_pos {n d : Int} (v : validB n d = true) : 0 < (textF n d).size := by
  have hne : textL n d ≠ [] := by unfold textL; split; exact itoa_ne n; simp
  rw [textF_l v]
  show 0 < (bs (textL n d)).data.size
  simp only [bs, List.size_toArray]
  exact List.length_pos_iff.2 hne
theorem Blk.c4 {w : World} {b : Nat} {t : TypeId} {v0 v1 v2 v3 : Value} (h : Blk w b t #[v0, v1, v2, v3]) : w.cell? ⟨b, 0, none⟩ = some v0 ∧ w.cell? ⟨b, 1, none⟩ = some v1 ∧ w.cell? ⟨b, 2, none⟩ = some v2 ∧ w.cell? ⟨b, 3, none⟩ = some v3 := by
  refine ⟨?_, ?_, ?_, ?_⟩ <;> simp [World.cell?, show w.heap[b]? = _ from h]
theorem hs_blk (b : Nat) (x d : Int) (s : Nat) (w : World) (hs : sumH x d = s) (h : Blk w b 3 #[.int .i64 x, .int .i64 d]) :
    Calls Tryd.prog 14 #[.string fracS, .slice (some ⟨b, 0, none⟩) 2 2] w fun e W' => e = .returned (.int .u64 (s : Int)) ∧ Below w.heap.size w W' := by
  subst hs; exact hsum_any b x d w h.lt h.c2.1 h.c2.2
theorem LS.a1 {w W : World} {A1 A2 : Nat} {a b c d : Int} (h : LS w W A1 A2 a b c d) (o : Obj) : LS w (W.alloc o) A1 A2 a b c d := h.next (bel1 _ _)
theorem LS.dr {w W : World} {A1 A2 : Nat} {a b c d : Int} (h : LS w W A1 A2 a b c d) : LS w W.drew A1 A2 a b c d := h.next (below_drewN _ 1)
theorem Blk.dr {w : World} {g : Nat} {t : TypeId} {cs : Array Value} (h : Blk w g t cs) : Blk w.drew g t cs := h
set_option maxHeartbeats 4000000 in
set_option maxRecDepth 100000 in
theorem fracKept_walk (z0 z1 z2 z3 : Int) (w : World) (hl : LibW w) (l0 : -9223372036854775808 ≤ z0) (u0 : z0 ≤ 9223372036854775807) (l1 : -9223372036854775808 ≤ z1) (u1 : z1 ≤ 9223372036854775807) (l2 : -9223372036854775808 ≤ z2) (u2 : z2 ≤ 9223372036854775807) (l3 : -9223372036854775808 ≤ z3) (u3 : z3 ≤ 9223372036854775807) :
    Calls Tryd.prog 3 #[.agg #[.int .i64 z0, .int .i64 z1, .int .i64 z2, .int .i64 z3]] w fun e w' => e = .returned (.bool true) ∧ Below w.heap.size w w' := by
  have HL := Box.mk hl; clear hl
  have C1 : Box (∀ W, Calls Tryd.prog 4 #[.int .i64 z0, .int .i64 z1] W (RetV W)) := ⟨fun W => of_any z0 z1 W l0 u0 l1 u1⟩
  have C2 : Box (∀ W, Calls Tryd.prog 4 #[.int .i64 z2, .int .i64 z3] W (RetV W)) := ⟨fun W => of_any z2 z3 W l2 u2 l3 u3⟩
  clear l0 u0 l1 u1 l2 u2 l3 u3
  go_enter Tryd.func3, Tryd.ntmps3
  have HB0 : Box (Below w.heap.size w (w.alloc (.cells #[.int .i64 z0, .int .i64 z1, .int .i64 z2, .int .i64 z3] 22)) ∧ Blk (w.alloc (.cells #[.int .i64 z0, .int .i64 z1, .int .i64 z2, .int .i64 z3] 22)) w.heap.size 22 #[.int .i64 z0, .int .i64 z1, .int .i64 z2, .int .i64 z3]) := ⟨bel1 _ _, Blk.new _ _ _⟩
  go_wp2_with fail
  refine (C1.out _).mono ?_
  rintro e w1 ⟨an, ad, rfl, hv1, hb⟩
  have HB1 : Box (Below w.heap.size w w1 ∧ Blk w1 w.heap.size 22 #[.int .i64 z0, .int .i64 z1, .int .i64 z2, .int .i64 z3]) := ⟨bthen HB0.out.1 hb (Nat.le_refl _), HB0.out.2.below hb⟩
  have HV1 := Box.mk hv1
  clear hb HB0 hv1
  go_upto_region 2 with (fail)
  have HB2 : Box (Below w.heap.size w (w1.alloc (.cells #[.int .i64 an, .int .i64 ad] 24)) ∧ Blk (w1.alloc (.cells #[.int .i64 an, .int .i64 ad] 24)) w.heap.size 22 #[.int .i64 z0, .int .i64 z1, .int .i64 z2, .int .i64 z3] ∧ Blk (w1.alloc (.cells #[.int .i64 an, .int .i64 ad] 24)) w1.heap.size 24 #[.int .i64 an, .int .i64 ad] ∧ w.heap.size ≤ w1.heap.size) :=
    ⟨bthen HB1.out.1 (bel1 _ _) (Nat.le_refl _), HB1.out.2.alloc _, Blk.new _ _ _, HB1.out.1.size⟩
  clear HB1
  generalize w1.heap.size = A1 at *
  generalize w1.alloc (.cells #[.int .i64 an, .int .i64 ad] 24) = W1 at *
  obtain ⟨c0, c1, c2, c3⟩ := HB2.out.2.1.c4
  go_wp2_with fail
  refine (C2.out _).mono ?_
  rintro e w2 ⟨bn, bd, rfl, hv2, hb⟩
  have HA : Box (LS w (w2.alloc (.cells #[.int .i64 bn, .int .i64 bd] 24)) A1 w2.heap.size an ad bn bd) := ⟨bthen (bthen HB2.out.1 hb (Nat.le_refl _)) (bel1 _ _) (Nat.le_refl _), (HB2.out.2.2.1.below hb).alloc _, Blk.new _ _ _, HB2.out.2.2.2, Nat.le_trans HB2.out.1.size hb.size⟩
  have HV2 := Box.mk hv2
  clear hb HB2 hv2 c0 c1 c2 c3 C1 C2
  go_upto_region 3 with (fail)
  generalize w2.heap.size = A2 at *
  generalize w2.alloc (.cells #[.int .i64 bn, .int .i64 bd] 24) = W2 at *
  have HA2 := Box.mk (HA.out.next (bel1 W2 (.cells #[.slice none 0 0] 28)))
  have hA1 := HA.out.b1.lt
  have hA2 := HA.out.b2.lt
  have hzw := HA.out.below.size
  have hg1 := HA.out.g1
  have hg2 := HA.out.g2
  have HS : Box (WS W2.heap.size (W2.alloc (.cells #[.slice none 0 0] 28)).heap.size (W2.alloc (.cells #[.slice none 0 0] 28)) (W2.alloc (.cells #[.slice none 0 0] 28)) (.slice none 0 0) []) := ⟨FW.refl _ _ _, Blk.new _ _ _, ⟨rfl, .inl ⟨rfl, rfl⟩⟩, by simp, Nat.le_refl _⟩
  clear HA
  go_upto_region 4 with (fail)
  generalize hGW : W2.heap.size = G at *
  generalize hW3 : W2.alloc (.cells #[.slice none 0 0] 28) = W3 at *
  have hB3 : W3.heap.size = G + 1 := by rw [← hW3, ← hGW]; simp
  clear hW3 hGW
  have hbd := valid_bd HV1.out
  have HN1 : Box (-9223372036854775808 ≤ an ∧ an ≤ 9223372036854775807) := ⟨by omega⟩
  have HN2 : Box (-9223372036854775808 ≤ ad ∧ ad ≤ 9223372036854775807) := ⟨by omega⟩
  clear hbd
  have HU1 := Box.mk (uv_len10 (zig_lt HN1.out.1 HN1.out.2))
  have HU2 := Box.mk (uv_len10 (zig_lt HN2.out.1 HN2.out.2))
  obtain ⟨r0, r1, r2, r3⟩ := HA2.out.cells
  have hne1 : A1 ≠ G := by omega
  have hne2 : A2 ≠ G := by omega
  go_wp2_with fail
  refine (wint_any G W3.heap.size an [] _ _ HS.out HN1.out.1 HN1.out.2 (by simp)).mono ?_
  rintro e w4 ⟨rfl, v4, hs⟩
  rw [List.nil_append] at hs
  have HA4 : Box (LS w w4 A1 A2 an ad bn bd) := ⟨HA2.out.fw hs.fw (by omega) (by omega) hne1 hne2 (by omega)⟩
  have HS4 := Box.mk hs.again
  have hz4 := hs.fw.size
  clear HA2 HS hs r0 r1 r2 r3
  obtain ⟨r0, r1, r2, r3⟩ := HA4.out.cells
  go_wp2_with fail
  refine (wint_any G W3.heap.size ad _ _ _ HS4.out HN2.out.1 HN2.out.2 (by have := HU1.out; omega)).mono ?_
  rintro e w5 ⟨rfl, v5, hs⟩
  have HA5 : Box (LS w w5 A1 A2 an ad bn bd) := ⟨HA4.out.fw hs.fw (by omega) (by omega) hne1 hne2 (by omega)⟩
  have HS5 := Box.mk hs.again
  have hz5 := hs.fw.size
  have HU3 : Box ((uv (zig an) ++ uv (zig ad)).length ≤ 20) := ⟨by have := HU1.out; have := HU2.out; rw [List.length_append]; omega⟩
  clear HA4 HS4 hs r0 r1 r2 r3
  obtain ⟨r0, r1, r2, r3⟩ := HA5.out.cells
  go_wp2_with fail
  refine (text_any an ad _ HN1.out.1 HN1.out.2 HN2.out.1 HN2.out.2 (HL.out.below HA5.out.below)).mono ?_
  rintro e w6 ⟨rfl, hb⟩
  have HA6 := Box.mk (HA5.out.next hb)
  have HS6 := Box.mk (HS5.out.below hb).again
  have hz6 := hb.size
  clear HA5 HS5 hb r0 r1 r2 r3
  obtain ⟨t, HT⟩ : ∃ t, Box (textF an ad = t) := ⟨_, ⟨rfl⟩⟩
  have HTS : Box (0 < t.size ∧ t.size ≤ 999) := ⟨by rw [← HT.out]; exact ⟨textF_pos HV1.out, text_size HV1.out⟩⟩
  have HTP : Box (parseF t = (an, ad, 0)) := ⟨by rw [← HT.out]; exact parse_text HV1.out⟩
  rw [HT.out]
  go_wp2_with fail
  refine (wtext_any G W3.heap.size t _ _ _ HS6.out HTS.out (by have := HU3.out; omega)).mono ?_
  rintro e w7 ⟨rfl, v7, hs⟩
  have HA7 : Box (LS w w7 A1 A2 an ad bn bd) := ⟨HA6.out.fw hs.fw (by omega) (by omega) hne1 hne2 (by omega)⟩
  have HS7 := Box.mk hs.again
  have hz7 := hs.fw.size
  clear HA6 HS6 hs
  have HU4 : Box ((uv t.size).length ≤ 10) := ⟨uv_len10 (by have := HTS.out; omega)⟩
  obtain ⟨l, HLL⟩ : ∃ l, Box (uv (zig an) ++ uv (zig ad) ++ uv t.size ++ strB t = l) := ⟨_, ⟨rfl⟩⟩
  have HLN : Box (0 < l.length ∧ l.length ≤ 2000) := ⟨by
    have := HU3.out; have := HU4.out; have := HTS.out
    rw [← HLL.out, List.length_append, List.length_append, strB_len]
    omega⟩
  rw [HLL.out] at HS7
  go_wp2_with fail
  refine (done_any G W3.heap.size l _ _ HS7.out HLN.out.1 HLN.out.2).mono ?_
  rintro e w8 ⟨b, off, c, rfl, -, hsq, hb⟩
  have HA8 := Box.mk (HA7.out.next hb)
  have HQ8 := Box.mk hsq
  have hz8 := hb.size
  clear HA7 HS7 hb hsq
  go_wp2_with fail
  refine (read_any b off c l _ HQ8.out HLN.out.1 HLN.out.2).mono ?_
  rintro e w9 ⟨h, b', off', c', rfl, hh, hr, hb⟩
  have HA9 := Box.mk (HA8.out.next hb)
  have HR9 := Box.mk hr
  have hz9 := hb.size
  clear HA8 HQ8 hb hr
  have hne3 : A1 ≠ h := by omega
  have hne4 : A2 ≠ h := by omega
  go_wp2_with fail
  refine (rint_any h b' off' c' 0 an l (uv (zig ad) ++ (uv t.size ++ strB t)) _ HR9.out (by rw [← HLL.out]; simp) HN1.out.1 HN1.out.2 HLN.out.2).mono ?_
  rintro e w10 ⟨rfl, hr, hf⟩
  have HA10 : Box (LS w w10 A1 A2 an ad bn bd) := ⟨HA9.out.fw hf (by omega) (by omega) hne3 hne4 (by omega)⟩
  have HR10 := Box.mk hr
  have hz10 := hf.size
  clear HA9 HR9 hr hf
  go_wp2_with fail
  refine (rint_any h b' off' c' _ ad l (uv t.size ++ (strB t ++ [])) _ HR10.out (by rw [← HLL.out]; simp) HN2.out.1 HN2.out.2 HLN.out.2).mono ?_
  rintro e w11 ⟨rfl, hr, hf⟩
  have HA11 : Box (LS w w11 A1 A2 an ad bn bd) := ⟨HA10.out.fw hf (by omega) (by omega) hne3 hne4 (by omega)⟩
  have HR11 := Box.mk hr
  have hz11 := hf.size
  clear HA10 HR10 hr hf
  go_wp2_with fail
  refine (rtext_any h b' off' c' _ t [] l _ HR11.out (by rw [← HLL.out, ← List.drop_drop]; simp) HTS.out.1 HLN.out.2).mono ?_
  rintro e w12 ⟨rfl, hr, hf⟩
  have HA12 : Box (LS w w12 A1 A2 an ad bn bd) := ⟨HA11.out.fw hf (by omega) (by omega) hne3 hne4 (by omega)⟩
  have HR12 := Box.mk hr
  have hz12 := hf.size
  clear HA11 HR11 hr hf
  go_wp2_with fail
  refine (parse_any t _ HTS.out.2 (HL.out.below HA12.out.below)).mono ?_
  rintro e w13 ⟨rfl, hb⟩
  rw [HTP.out]
  have HA13 : Box (LS w (w13.alloc (.cells #[.int .i64 an, .int .i64 ad] 24)) A1 A2 an ad bn bd ∧ Blk (w13.alloc (.cells #[.int .i64 an, .int .i64 ad] 24)) w13.heap.size 24 #[.int .i64 an, .int .i64 ad]) := ⟨(HA12.out.next hb).next (bel1 _ _), Blk.new _ _ _⟩
  have HR13 := Box.mk ((HR12.out.below hb).below (bel1 _ (.cells #[.int .i64 an, .int .i64 ad] 24)))
  have hz13 := hb.size
  have hh12 := HR12.out.blk.lt
  clear HA12 HR12 hb
  go_upto_region 11 with (fail)
  have hh1 : w13.heap.size ≠ h := by omega
  have hzC : w13.heap.size < (w13.alloc (.cells #[.int .i64 an, .int .i64 ad] 24)).heap.size := by simp
  generalize w13.heap.size = C at *
  generalize w13.alloc (.cells #[.int .i64 an, .int .i64 ad] 24) = W14 at *
  go_wp2_with fail
  refine (end_any h b' off' c' _ l _ HR13.out (by rw [← HLL.out]; simp [strB_len]; omega) HLN.out.2).mono ?_
  rintro e w15 ⟨rfl, -, hf⟩
  have HA15 : Box (LS w w15 A1 A2 an ad bn bd) := ⟨HA13.out.1.fw hf (by omega) (by omega) hne3 hne4 (by omega)⟩
  have HC15 : Box (Blk w15 C 24 #[.int .i64 an, .int .i64 ad]) := ⟨(hf.block C hzC hh1).trans HA13.out.2⟩
  have hz15 := hf.size
  clear HA13 HR13 hf
  obtain ⟨r0, r1, r2, r3⟩ := HA15.out.cells
  have rf := HA15.out.b1.frozen
  have rg := HA15.out.b2.frozen
  obtain ⟨s0, s1⟩ := HC15.out.c2
  have sf := HC15.out.frozen
  have i1 : (an == an) = true := by simp
  have i2 : (ad == ad) = true := by simp
  go_upto_region 13 with (fail)
  have hbd1 := valid_bd HV1.out
  have hbd2 := valid_bd HV2.out
  have HI : Box (sumH an ad = sumH bn ad ↔ an = bn) := ⟨sum_inj (by omega) (by omega) (by omega) (by omega)⟩
  clear hbd1 hbd2
  obtain ⟨t1, HT1⟩ : ∃ s, Box (sumH an ad = s) := ⟨_, ⟨rfl⟩⟩
  obtain ⟨t2, HT2⟩ : ∃ s, Box (sumH bn ad = s) := ⟨_, ⟨rfl⟩⟩
  obtain ⟨d, HD⟩ : ∃ d, Box (decide (an = bn) = d) := ⟨_, ⟨rfl⟩⟩
  have q1 : ((t1 : Int) == (t2 : Int)) = d := by
    rw [← HD.out, ← HT1.out, ← HT2.out]
    rw [Bool.eq_iff_iff, beq_iff_eq, decide_eq_true_iff, ← HI.out]
    omega
  have q2 : (an == bn) = d := by rw [← HD.out]; rfl
  have q3 : (d == d) = true := by simp
  clear rf rg s0 s1 sf r0 r1 r2 r3 HC15 hne1 hne2 hne3 hne4 hh1 hA1 hA2 hzw hB3 hz4 hz5 hz6 hz7 hz8 hz9 hz10 hz11 hz12 hz13 hzC hz15 hh12 hh hg1 hg2 HN1 HN2 HU1 HU2 HU3 HU4 HLL HLN HT HTS HTP HI
  go_region_held3 (fun w' => w'.cell? ⟨A1, 0, none⟩ = some (.int .i64 an) ∧ w'.cell? ⟨A1, 1, none⟩ = some (.int .i64 ad) ∧ w'.cell? ⟨A2, 0, none⟩ = some (.int .i64 bn) ∧ w'.cell? ⟨A2, 1, none⟩ = some (.int .i64 bd))
    (first | with_reducible exact HA15.out.cells | with_reducible exact HA15.out.dr.cells | with_reducible exact (HA15.out.a1 _).cells | with_reducible exact (HA15.out.a1 _).dr.cells | with_reducible exact ((HA15.out.a1 _).dr.a1 _).cells | with_reducible exact ((HA15.out.a1 _).a1 _).cells | with_reducible exact ((HA15.out.a1 _).a1 _).dr.cells | go_keep)
    (first
      | (go_at_call 14; refine (hs_blk _ an ad t1 _ HT1.out ?_).mono ?_; exact (by first | with_reducible exact Blk.new _ _ _ | with_reducible exact (Blk.new _ _ _).dr | with_reducible exact (Blk.new _ _ _).alloc _ | with_reducible exact ((Blk.new _ _ _).alloc _).dr | with_reducible exact Blk.newAt _ _ (by simp) | with_reducible exact (Blk.newAt _ _ (by simp)).dr); rintro e w5 ⟨rfl, hb5⟩; have HX := Box.mk hb5; have HB : Box (LS w w5 A1 A2 an ad bn bd) := (by first | with_reducible exact ⟨(HA15.out.a1 _).next hb5⟩ | with_reducible exact ⟨(HA15.out.a1 _).dr.next hb5⟩ | with_reducible exact ⟨((HA15.out.a1 _).dr.a1 _).next hb5⟩ | with_reducible exact ⟨((HA15.out.a1 _).a1 _).next hb5⟩ | with_reducible exact ⟨((HA15.out.a1 _).a1 _).dr.next hb5⟩); clear HA15; have HA15 := Box.mk HB.out; clear HB; clear hb5)
      | (go_at_call 14; refine (hs_blk _ bn ad t2 _ HT2.out ?_).mono ?_; exact (by first | with_reducible exact Blk.new _ _ _ | with_reducible exact ((Blk.new _ _ _).alloc _).below HX.out | with_reducible exact ((Blk.new _ _ _).alloc _).dr.below HX.out | with_reducible exact (Blk.newAt _ _ (by simp)).below HX.out | with_reducible exact (Blk.newAt _ _ (by simp)).dr.below HX.out); rintro e w5 ⟨rfl, hb5⟩; have HB : Box (LS w w5 A1 A2 an ad bn bd) := (by first | with_reducible exact ⟨HA15.out.next hb5⟩ | with_reducible exact ⟨(HA15.out.a1 _).next hb5⟩); clear HA15; have HA15 := Box.mk HB.out; clear HB; clear hb5)
      | (go_at_call 15; refine (lives_true _ (HL.out.below HA15.out.below)).mono ?_; rintro e w5 ⟨rfl, hb5⟩; have HB : Box (LS w w5 A1 A2 an ad bn bd) := ⟨HA15.out.next hb5⟩; clear HA15; have HA15 := Box.mk HB.out; clear HB; clear hb5))
  all_goals
    go_wp2_with fail
    go_ret
    exact ⟨rfl, by first | exact HA15.out.below | exact (HA15.out.next (below_drewN _ _)).below⟩
end Go.Proofs.YtinbfdfgebiaeaaDoor
