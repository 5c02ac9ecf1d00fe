/- Contracts, packed: Bd. -/
import Derived.Test.YtkdojgkiclndfaaGreatDoorPz41
import Derived.Test.YtkdojgkiclndfaaGreatDoorPz47
import Derived.Test.YtkdojgkiclndfaaGreatDoorPz49
set_option linter.unusedVariables false
set_option linter.unusedSimpArgs false
namespace Go.Proofs.YtkdojgkiclndfaaGreatDoor
section
open Go.RowKit FracM
def RetEn (q : List Nat × Int) (w : World) (e : Ending) (w' : World) : Prop := ∃ v, e = .returned (.tuple #[v, .int .i64 q.2]) ∧ OwnB w' w.heap.size v q.1 ∧ q.1.length ≤ 300000 ∧ Below w.heap.size w w'
set_option maxHeartbeats 16000000 in
set_option maxRecDepth 100000 in
theorem pencode_any (l : List Nd) (pv : Value) (w : World) (hp : PlanP w AnyP pv l) (hsm : ∀ d ∈ l, SmallD d) (hw : WordsV w) : Calls Tryz.prog 19 #[pv] w (RetEn (encM l) w) := by
 obtain ⟨A, c, rfl, -⟩ := hp.form
 obtain ⟨er, her⟩ : ∃ er, (treeM l).2 = er := ⟨_, rfl⟩
 have CK : Box (Calls Tryz.prog 24 #[.slice A l.length c] w (RetB (.int .i64 er) w)) := ⟨by rw [← her]; exact pcheck_any l _ w hp hsm (wordsV_g hw)⟩
 have HP : Box (PlanP w (fun b _ => b < w.heap.size) (.slice A l.length c) l) := ⟨hp.mono fun _ _ hb _ => hb⟩
 have HER := Box.mk her
 clear hp hsm hw her
 go_enter Tryz.func19, Tryz.ntmps19
 go_wp2_with fail
 refine (CK.out).mono ?_
 rintro e1 w1 ⟨rfl, hb⟩
 have HB1 := Box.mk hb
 clear hb CK
 by_cases h0 : er = 0
 ·subst h0
  have HSM := Box.mk (plan_small HER.out)
  have HSZ := Box.mk (plan_sizes HER.out)
  have HEN : Box (encM l = (encPl l, 0)) := ⟨if_pos HER.out⟩
  have hn200 := HSM.out.1
  have hln : ∀ x ∈ ([(l.length : Nat)] : List Int), I64 x := by intro x hx; simp only [List.mem_cons, List.not_mem_nil, or_false] at hx; subst hx; unfold I64; omega
  have HS0 : Box (EnS w (w1.alloc (.cells #[.slice none 0 0] 89)) w1.heap.size (.slice A l.length c) l (.slice none 0 0) []) := ⟨bthen HB1.out (bel1 _ _) (Nat.le_refl _), (HP.out.keep (Agree.of_lt HB1.out fun _ _ h => h)).belo (bel1 _ _), ⟨FW.refl _ _ _, fun k hk => .inl hk, Blk.new _ _ _, World.ownsRow_nil _ _ _ _, Nat.lt_succ_self _, by simp⟩, HB1.out.size⟩
  clear HP HB1
  go_upto_region 5 with (fail)
  obtain ⟨g, hg⟩ : ∃ g, w1.heap.size = g := ⟨_, rfl⟩
  rw [hg] at HS0 ⊢
  clear hg
  generalize w1.alloc (.cells #[.slice none 0 0] 89) = W0 at HS0 ⊢
  obtain ⟨b0, Eb0⟩ : ∃ b, Box (([] : List Nat) ++ ([(l.length : Nat)] : List Int).flatMap encI = b) := ⟨_, ⟨rfl⟩⟩
  have Lb0 : b0.length ≤ ([] : List Nat).length + 10 := by rw [← Eb0.out, List.length_append]; have := flatI_len ([(l.length : Nat)] : List Int) hln; simp only [List.length_cons, List.length_nil] at this; omega
  have C0 : Box (Calls Tryz.prog 44 #[.pointer (some ⟨g, 0, none⟩), .slice (some ⟨W0.heap.size, 0, none⟩) 1 1] (W0.alloc (.cells #[.int .i64 ((l.length : Nat))] 3)) (RetWr g (g + 1) (W0.alloc (.cells #[.int .i64 ((l.length : Nat))] 3)) (.slice none 0 0) b0)) := ⟨by rw [← Eb0.out]; exact pints_any g (g + 1) ([(l.length : Nat)] : List Int) _ _ ([] : List Nat) (.slice none 0 0) _ (HS0.out.next (bel1 _ _)).ws (HS0.out.row #[.int .i64 ((l.length : Nat))] 3 1 rfl (by decide)) hln (by simp) (by first | omega | simp)⟩
  go_wp2_with fail
  refine (C0.out).mono ?_
  rintro e w2 ⟨rfl, v1, hw⟩
  have HS1 := Box.mk ((HS0.out.next (bel1 _ _)).wrote hw)
  clear hw C0
  clear HS0 hln
  have Lb00 : b0.length ≤ 10 := by simpa using Lb0
  go_wp2_with fail
  go_loopw [23] (fun z wr => ∃ (k : Nat) (v1 : Value) (b1 : List Nat), k ≤ l.length ∧ z = .int .i64 (k : Nat) ∧ b1.length ≤ 10 + 1000 * k ∧ Box (b1 = encI l.length ++ (l.take k).flatMap encNd) ∧ Box (EnS w wr g (.slice A l.length c) l v1 b1)) (fun z _ => l.length - (intOf z).toNat)
  case atStart => exact ⟨0, v1, b0, by omega, rfl, by omega, ⟨by rw [← Eb0.out]; simp⟩, HS1⟩
  case round =>
   clear HS1 Lb0 Lb00
   rename World => wr
   obtain ⟨k, v1, b1, hk, rfl, L1, E1, HS1⟩ := hrel
   by_cases hlt : k < l.length
   ·have hlt2 : (k : Int) < (l.length : Int) := by omega
    obtain ⟨d, hd⟩ : ∃ d, l[k]? = some d := ⟨l[k], List.getElem?_eq_getElem _⟩
    obtain ⟨pb, po, mv0, bv0, hA, hpb, ⟨zpb, hpw⟩, ⟨p0, p1, p2, p3, p4, p5, p6, p7, p8, p9⟩, hxi⟩ := HS1.out.pl.at_ k d hd
    subst hA
    obtain ⟨X1, x1, rfl, -⟩ := hxi.ms.form
    obtain ⟨X2, x2, rfl, -⟩ := hxi.bys.form
    have HD := Box.mk hd
    have HSD := Box.mk (HSZ.out d (List.mem_of_getElem? hd))
    obtain ⟨hml, hbl⟩ := HSM.out.2 d (List.mem_of_getElem? hd)
    obtain ⟨i0, i1, i2, i3, i4, i5, i6⟩ := hxi.ok.ints
    have h7 : ∀ x ∈ ([d.kind, d.fn, d.win, d.off, d.k, d.num, d.den] : List Int), I64 x := by intro x hx; simp only [List.mem_cons, List.not_mem_nil, or_false] at hx; rcases hx with rfl | rfl | rfl | rfl | rfl | rfl | rfl <;> assumption
    have hmn : ∀ x ∈ ([(d.ms.length : Nat)] : List Int), I64 x := by intro x hx; simp only [List.mem_cons, List.not_mem_nil, or_false] at hx; subst hx; unfold I64; omega
    have hbn : ∀ x ∈ ([(d.bys.length : Nat)] : List Int), I64 x := by intro x hx; simp only [List.mem_cons, List.not_mem_nil, or_false] at hx; subst hx; unfold I64; omega
    clear i0 i1 i2 i3 i4 i5 i6
    have HX1 : Box (EnX w (wr.alloc (.cells (insC d (.slice X1 d.ms.length x1) (.slice X2 d.bys.length x2)) 57)) g (.slice (some ⟨pb, po, none⟩) l.length c) l v1 b1 wr.heap.size d (.slice X1 d.ms.length x1) (.slice X2 d.bys.length x2)) := ⟨HS1.out.next (bel1 _ _), Hold.new HS1.out.ws _ _, hxi.belo (bel1 _ _)⟩
    clear hd hxi
    go_upto_region 9 with (fail)
    obtain ⟨xb, hxb⟩ : ∃ x, wr.heap.size = x := ⟨_, rfl⟩
    rw [hxb] at HX1 ⊢
    clear hxb p0 p1 p2 p3 p4 p5 p6 p7 p8 p9 hpb
    generalize wr.alloc (.cells (insC d (.slice X1 d.ms.length x1) (.slice X2 d.bys.length x2)) 57) = W1 at HX1 ⊢
    clear HS1
    obtain ⟨k0, k1, k2, k3, k4, k5, k6, k7, k8, k9⟩ := blk10z HX1.out.x.blk
    obtain ⟨b2, Eb2⟩ : ∃ b, Box (b1 ++ ([d.kind, d.fn, d.win, d.off, d.k, d.num, d.den] : List Int).flatMap encI = b) := ⟨_, ⟨rfl⟩⟩
    have Lb2 : b2.length ≤ b1.length + 70 := by rw [← Eb2.out, List.length_append]; have := flatI_len ([d.kind, d.fn, d.win, d.off, d.k, d.num, d.den] : List Int) h7; simp only [List.length_cons, List.length_nil] at this; omega
    have C2 : Box (Calls Tryz.prog 44 #[.pointer (some ⟨g, 0, none⟩), .slice (some ⟨W1.heap.size, 0, none⟩) 7 7] (W1.alloc (.cells #[.int .i64 (d.kind), .int .i64 (d.fn), .int .i64 (d.win), .int .i64 (d.off), .int .i64 (d.k), .int .i64 (d.num), .int .i64 (d.den)] 3)) (RetWr g (g + 1) (W1.alloc (.cells #[.int .i64 (d.kind), .int .i64 (d.fn), .int .i64 (d.win), .int .i64 (d.off), .int .i64 (d.k), .int .i64 (d.num), .int .i64 (d.den)] 3)) v1 b2)) := ⟨by rw [← Eb2.out]; exact pints_any g (g + 1) ([d.kind, d.fn, d.win, d.off, d.k, d.num, d.den] : List Int) _ _ b1 v1 _ (HX1.out.s.next (bel1 _ _)).ws (HX1.out.s.row #[.int .i64 (d.kind), .int .i64 (d.fn), .int .i64 (d.win), .int .i64 (d.off), .int .i64 (d.k), .int .i64 (d.num), .int .i64 (d.den)] 3 7 rfl (by decide)) h7 (by simp) (by first | omega | simp)⟩
    go_wp2_with fail
    refine (C2.out).mono ?_
    rintro e w2 ⟨rfl, v2, hw⟩
    have HX2 := Box.mk ((HX1.out.next (bel1 _ _)).wrote hw)
    clear hw C2
    clear HX1 h7
    clear k0 k1 k2 k3 k4 k5 k6 k7 k8 k9
    obtain ⟨k0, k1, k2, k3, k4, k5, k6, k7, k8, k9⟩ := blk10z HX2.out.x.blk
    obtain ⟨b3, Eb3⟩ : ∃ b, Box (b2 ++ encS (d.name) = b) := ⟨_, ⟨rfl⟩⟩
    have Lb3 : b3.length ≤ b2.length + 26 := by rw [← Eb3.out, List.length_append]; have := encS_len (s := d.name) HSD.out.name; omega
    have C3 : Box (Calls Tryz.prog 45 #[.pointer (some ⟨g, 0, none⟩), .string (d.name)] w2 (RetWr g (g + 1) w2 v2 b3)) := ⟨by rw [← Eb3.out]; have h := wtext_any g (g + 1) (d.name) b2 v2 w2 HX2.out.s.ws (by have := HSD.out.name; omega) (by omega); rw [List.append_assoc] at h; exact h⟩
    go_wp2_with fail
    refine (C3.out).mono ?_
    rintro e w3 ⟨rfl, v3, hw⟩
    have HX3 := Box.mk ((HX2.out).wrote hw)
    clear hw C3
    clear HX2
    clear k0 k1 k2 k3 k4 k5 k6 k7 k8 k9
    obtain ⟨k0, k1, k2, k3, k4, k5, k6, k7, k8, k9⟩ := blk10z HX3.out.x.blk
    obtain ⟨b4, Eb4⟩ : ∃ b, Box (b3 ++ ([(d.ms.length : Nat)] : List Int).flatMap encI = b) := ⟨_, ⟨rfl⟩⟩
    have Lb4 : b4.length ≤ b3.length + 10 := by rw [← Eb4.out, List.length_append]; have := flatI_len ([(d.ms.length : Nat)] : List Int) hmn; simp only [List.length_cons, List.length_nil] at this; omega
    have C4 : Box (Calls Tryz.prog 44 #[.pointer (some ⟨g, 0, none⟩), .slice (some ⟨w3.heap.size, 0, none⟩) 1 1] (w3.alloc (.cells #[.int .i64 ((d.ms.length : Nat))] 3)) (RetWr g (g + 1) (w3.alloc (.cells #[.int .i64 ((d.ms.length : Nat))] 3)) v3 b4)) := ⟨by rw [← Eb4.out]; exact pints_any g (g + 1) ([(d.ms.length : Nat)] : List Int) _ _ b3 v3 _ (HX3.out.s.next (bel1 _ _)).ws (HX3.out.s.row #[.int .i64 ((d.ms.length : Nat))] 3 1 rfl (by decide)) hmn (by simp) (by first | omega | simp)⟩
    go_wp2_with fail
    refine (C4.out).mono ?_
    rintro e w4 ⟨rfl, v4, hw⟩
    have HX4 := Box.mk ((HX3.out.next (bel1 _ _)).wrote hw)
    clear hw C4
    clear HX3 hmn
    clear k0 k1 k2 k3 k4 k5 k6 k7 k8 k9
    obtain ⟨k0, k1, k2, k3, k4, k5, k6, k7, k8, k9⟩ := blk10z HX4.out.x.blk
    go_wp2_with fail
    go_loopw [56] (fun z wq => ∃ (j : Nat) (v5 : Value) (b5 : List Nat), j ≤ d.ms.length ∧ z = .int .i64 (j : Nat) ∧ b5.length ≤ b4.length + 62 * j ∧ Box (b5 = b4 ++ (d.ms.take j).flatMap matE) ∧ Box (EnX w wq g (.slice (some ⟨pb, po, none⟩) l.length c) l v5 b5 xb d (.slice X1 d.ms.length x1) (.slice X2 d.bys.length x2))) (fun z _ => d.ms.length - (intOf z).toNat)
    case atStart => exact ⟨0, v4, b4, by omega, rfl, by omega, ⟨by simp⟩, HX4⟩
    case round =>
     clear HX4 k0 k1 k2 k3 k4 k5 k6 k7 k8 k9
     rename World => wq
     obtain ⟨j, v5, b5, hj, rfl, L5, E5, HX5⟩ := hrel
     by_cases hlt : j < d.ms.length
     ·have hlt2 : (j : Int) < (d.ms.length : Int) := by omega
      obtain ⟨x, hx⟩ : ∃ x, d.ms[j]? = some x := ⟨d.ms[j], List.getElem?_eq_getElem _⟩
      obtain ⟨mb, mo, hM, -, q0, q1, q2⟩ := HX5.out.r.ms.matP j x hx
      subst hM
      obtain ⟨hs1, hs2, hs3⟩ := HSD.out.ms x (List.mem_of_getElem? hx)
      have HM0 := Box.mk (Hold.new HX5.out.s.ws #[.string x.1, .int .i64 x.2.1, .string x.2.2] 86)
      have HX6 := Box.mk (HX5.out.next (bel1 wq (.cells #[.string x.1, .int .i64 x.2.1, .string x.2.2] 86)))
      go_upto_region 15 with (fail)
      obtain ⟨mm, hmm⟩ : ∃ m, wq.heap.size = m := ⟨_, rfl⟩
      rw [hmm] at HM0 ⊢
      clear hmm q0 q1 q2
      generalize wq.alloc (.cells #[.string x.1, .int .i64 x.2.1, .string x.2.2] 86) = W6 at HM0 HX6 ⊢
      clear HX5
      obtain ⟨m0, m1, m2⟩ := HM0.out.blk.c3
      obtain ⟨ba, Eba⟩ : ∃ b, Box (b5 ++ encS (x.1) = b) := ⟨_, ⟨rfl⟩⟩
      have Lba : ba.length ≤ b5.length + 26 := by rw [← Eba.out, List.length_append]; have := encS_len (s := x.1) hs1; omega
      have Ca : Box (Calls Tryz.prog 45 #[.pointer (some ⟨g, 0, none⟩), .string (x.1)] W6 (RetWr g (g + 1) W6 v5 ba)) := ⟨by rw [← Eba.out]; have h := wtext_any g (g + 1) (x.1) b5 v5 W6 HX6.out.s.ws (by have := hs1; omega) (by omega); rw [List.append_assoc] at h; exact h⟩
      go_wp2_with fail
      refine (Ca.out).mono ?_
      rintro e wa ⟨rfl, va, hw⟩
      have HXa := Box.mk (HX6.out.wrote hw)
      have HMa := Box.mk (HM0.out.wrote hw)
      clear hw Ca HX6 HM0 m0 m1 m2
      obtain ⟨m0, m1, m2⟩ := HMa.out.blk.c3
      obtain ⟨bb, Ebb⟩ : ∃ b, Box (ba ++ encI (x.2.1) = b) := ⟨_, ⟨rfl⟩⟩
      have Lbb : bb.length ≤ ba.length + 10 := by rw [← Ebb.out, List.length_append]; have := zig10 hs3; omega
      have Cb : Box (Calls Tryz.prog 46 #[.pointer (some ⟨g, 0, none⟩), .int .i64 (x.2.1)] wa (RetWr g (g + 1) wa va bb)) := ⟨by rw [← Ebb.out]; exact wint_any g (g + 1) (x.2.1) ba va wa HXa.out.s.ws hs3.1 hs3.2 (by omega)⟩
      go_wp2_with fail
      refine (Cb.out).mono ?_
      rintro e wb ⟨rfl, vb, hw⟩
      have HXb := Box.mk (HXa.out.wrote hw)
      have HMb := Box.mk (HMa.out.wrote hw)
      clear hw Cb HXa HMa m0 m1 m2
      obtain ⟨m0, m1, m2⟩ := HMb.out.blk.c3
      obtain ⟨bc, Ebc⟩ : ∃ b, Box (bb ++ encS (x.2.2) = b) := ⟨_, ⟨rfl⟩⟩
      have Lbc : bc.length ≤ bb.length + 26 := by rw [← Ebc.out, List.length_append]; have := encS_len (s := x.2.2) hs2; omega
      have Cc : Box (Calls Tryz.prog 45 #[.pointer (some ⟨g, 0, none⟩), .string (x.2.2)] wb (RetWr g (g + 1) wb vb bc)) := ⟨by rw [← Ebc.out]; have h := wtext_any g (g + 1) (x.2.2) bb vb wb HXb.out.s.ws (by have := hs2; omega) (by omega); rw [List.append_assoc] at h; exact h⟩
      have HTK : Box (bc = b4 ++ (d.ms.take (j + 1)).flatMap matE) := ⟨by rw [← Ebc.out, ← Ebb.out, ← Eba.out, E5.out, List.take_add_one, hx]; simp [matE, pairE]⟩
      clear hx
      go_wp2_with fail
      refine (Cc.out).mono ?_
      rintro e wc ⟨rfl, vc, hw⟩
      have HXc := Box.mk (HXb.out.wrote hw)
      clear hw Cc HXb HMb m0 m1 m2
      go_wp2_with fail
      go_roundw
      case rel => exact ⟨j + 1, vc, bc, by omega, by go_num, by omega, HTK, HXc⟩
      case measure => simp [intOf]; omega
     ·have hlt2 : ¬ (j : Int) < (d.ms.length : Int) := by omega
      have hje : j = d.ms.length := by omega
      subst hje
      rw [List.take_length] at E5
      obtain ⟨k0, k1, k2, k3, k4, k5, k6, k7, k8, k9⟩ := blk10z HX5.out.x.blk
      obtain ⟨b6, Eb6⟩ : ∃ b, Box (b5 ++ ([(d.bys.length : Nat)] : List Int).flatMap encI = b) := ⟨_, ⟨rfl⟩⟩
      have Lb6 : b6.length ≤ b5.length + 10 := by rw [← Eb6.out, List.length_append]; have := flatI_len ([(d.bys.length : Nat)] : List Int) hbn; simp only [List.length_cons, List.length_nil] at this; omega
      have C6 : Box (Calls Tryz.prog 44 #[.pointer (some ⟨g, 0, none⟩), .slice (some ⟨wq.heap.size, 0, none⟩) 1 1] (wq.alloc (.cells #[.int .i64 ((d.bys.length : Nat))] 3)) (RetWr g (g + 1) (wq.alloc (.cells #[.int .i64 ((d.bys.length : Nat))] 3)) v5 b6)) := ⟨by rw [← Eb6.out]; exact pints_any g (g + 1) ([(d.bys.length : Nat)] : List Int) _ _ b5 v5 _ (HX5.out.s.next (bel1 _ _)).ws (HX5.out.s.row #[.int .i64 ((d.bys.length : Nat))] 3 1 rfl (by decide)) hbn (by simp) (by first | omega | simp)⟩
      go_wp2_with fail
      refine (C6.out).mono ?_
      rintro e w6 ⟨rfl, v6, hw⟩
      have HX6 := Box.mk ((HX5.out.next (bel1 _ _)).wrote hw)
      clear hw C6
      clear k0 k1 k2 k3 k4 k5 k6 k7 k8 k9
      obtain ⟨k0, k1, k2, k3, k4, k5, k6, k7, k8, k9⟩ := blk10z HX6.out.x.blk
      go_wp2_with fail
      go_loopw [78] (fun z wq => ∃ (j : Nat) (v7 : Value) (b7 : List Nat), j ≤ d.bys.length ∧ z = .int .i64 (j : Nat) ∧ b7.length ≤ b6.length + 26 * j ∧ Box (b7 = b6 ++ (d.bys.take j).flatMap encS) ∧ Box (EnX w wq g (.slice (some ⟨pb, po, none⟩) l.length c) l v7 b7 xb d (.slice X1 d.ms.length x1) (.slice X2 d.bys.length x2))) (fun z _ => d.bys.length - (intOf z).toNat)
      case atStart => exact ⟨0, v6, b6, by omega, rfl, by omega, ⟨by simp⟩, HX6⟩
      case round =>
       clear HX5 HX6 k0 k1 k2 k3 k4 k5 k6 k7 k8 k9
       rename World => wq
       obtain ⟨j, v7, b7, hj, rfl, L7, E7, HX7⟩ := hrel
       by_cases hlt : j < d.bys.length
       ·have hlt2 : (j : Int) < (d.bys.length : Int) := by omega
        obtain ⟨x, hx⟩ : ∃ x, d.bys[j]? = some x := ⟨d.bys[j], List.getElem?_eq_getElem _⟩
        obtain ⟨mb, mo, hM, -, -, q0⟩ := HX7.out.r.bys.at1b j (.string x) (by rw [List.getElem?_map, hx]; rfl)
        subst hM
        have hsx := HSD.out.bys x (List.mem_of_getElem? hx)
        obtain ⟨b8, Eb8⟩ : ∃ b, Box (b7 ++ encS (x) = b) := ⟨_, ⟨rfl⟩⟩
        have Lb8 : b8.length ≤ b7.length + 26 := by rw [← Eb8.out, List.length_append]; have := encS_len (s := x) hsx; omega
        have C8 : Box (Calls Tryz.prog 45 #[.pointer (some ⟨g, 0, none⟩), .string (x)] wq (RetWr g (g + 1) wq v7 b8)) := ⟨by rw [← Eb8.out]; have h := wtext_any g (g + 1) (x) b7 v7 wq HX7.out.s.ws (by have := hsx; omega) (by omega); rw [List.append_assoc] at h; exact h⟩
        have HTK : Box (b8 = b6 ++ (d.bys.take (j + 1)).flatMap encS) := ⟨by rw [← Eb8.out, E7.out, List.take_add_one, hx]; simp⟩
        clear hx
        go_wp2_with fail
        refine (C8.out).mono ?_
        rintro e w8 ⟨rfl, v8, hw⟩
        have HX8 := Box.mk ((HX7.out).wrote hw)
        clear hw C8
        go_wp2_with fail
        go_roundw
        case rel => exact ⟨j + 1, v8, b8, by omega, by go_num, by omega, HTK, HX8⟩
        case measure => simp [intOf]; omega
       ·have hlt2 : ¬ (j : Int) < (d.bys.length : Int) := by omega
        have hje : j = d.bys.length := by omega
        subst hje
        rw [List.take_length] at E7
        have HTK : Box (b7 = encI l.length ++ (l.take (k + 1)).flatMap encNd) := ⟨by
         rw [E7.out, ← Eb6.out, E5.out, ← Eb4.out, ← Eb3.out, ← Eb2.out, E1.out, List.take_add_one, HD.out, Option.toList_some, List.flatMap_append]
         simp only [encNd, hdE, pairE, hdOf, List.flatMap_cons, List.flatMap_nil, List.append_nil, List.append_assoc]⟩
        go_wp2_with fail
        go_roundw
        case rel => exact ⟨k + 1, v7, b7, by omega, by go_num, by omega, HTK, ⟨HX7.out.s⟩⟩
        case measure => simp [intOf]; omega
   ·have hlt2 : ¬ (k : Int) < (l.length : Int) := by omega
    have hke : k = l.length := by omega
    subst hke
    rw [List.take_length] at E1
    have CD : Box (Calls Tryz.prog 47 #[.pointer (some ⟨g, 0, none⟩)] wr (RetSq b1 wr)) := ⟨done_any g (g + 1) b1 v1 wr HS1.out.ws (by rw [E1.out, List.length_append]; have := uvN_ne (zig (l.length : Int)); have h := List.length_pos_iff.2 this; unfold encI; omega) (by omega)⟩
    go_wp2_with fail
    refine (CD.out).mono ?_
    rintro e w9 ⟨v9, rfl, ho9, hb9⟩
    have HO := Box.mk (And.intro ho9 hb9)
    clear ho9 hb9 CD
    go_wp2_with fail
    refine bodyPost_ret (v := .tuple #[v9, .int .i64 0]) (by simp [results, Tryz.results19, go_sem]) rfl ?_
    exact ⟨v9, by rw [HEN.out], by rw [HEN.out]; show OwnB _ _ _ (encPl l); unfold encPl; rw [← E1.out]; exact own_baseU HO.out.1 HS1.out.below.size, by rw [HEN.out]; show (encPl l).length ≤ _; unfold encPl; rw [← E1.out]; omega, bthen HS1.out.below HO.out.2 (Nat.le_refl _)⟩
 ·have h1 : (er != 0) = true := by simpa using h0
  have HEN : Box (encM l = ([], er)) := ⟨by unfold encM; rw [if_neg (by rw [HER.out]; exact h0), HER.out]⟩
  clear h0
  go_wp2_with fail
  refine bodyPost_ret (v := .tuple #[.slice none 0 0, .int .i64 er]) (by simp [results, Tryz.results19, go_sem]) rfl ?_
  exact ⟨.slice none 0 0, by rw [HEN.out], by rw [HEN.out]; exact World.ownsRow_nil _ _ _ _, by rw [HEN.out]; simp, HB1.out⟩
end
end Go.Proofs.YtkdojgkiclndfaaGreatDoor
