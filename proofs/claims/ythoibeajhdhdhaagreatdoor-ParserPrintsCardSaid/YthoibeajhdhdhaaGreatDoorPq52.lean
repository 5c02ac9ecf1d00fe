/- Contracts, packed: Jh Jl Fa Fb. -/
import Derived.Test.YthoibeajhdhdhaaGreatDoorPq1
import Derived.Test.YthoibeajhdhdhaaGreatDoorPq2
import Derived.Test.YthoibeajhdhdhaaGreatDoorPq25
import Derived.Test.YthoibeajhdhdhaaGreatDoorPq31
import Derived.Test.YthoibeajhdhdhaaGreatDoorPq35
import Derived.Test.YthoibeajhdhdhaaGreatDoorPq39
import Derived.Test.YthoibeajhdhdhaaGreatDoorPq50
import Derived.Test.YthoibeajhdhdhaaGreatDoorPq51
import Derived.RegionTactic
import Derived.ChangeAlike
set_option linter.unusedVariables false
set_option linter.unusedSimpArgs false
namespace Go.Proofs.YthoibeajhdhdhaaGreatDoor
section
open Go.RowKit FracM

def live1 : List UInt8 := [115, 117, 109, 32, 98, 121, 32, 40, 122, 111, 110, 101, 41, 32, 40, 114, 101, 113, 123, 99, 111, 100, 101, 94, 61, 34, 53, 34, 125, 46, 114, 97, 116, 101, 40, 54, 48, 41, 41, 32, 47, 32, 50]
def live2 : List UInt8 := [97, 46, 107, 116, 104, 40, 51, 44, 52, 41]
def liveP : List UInt8 := [115, 117, 109, 32, 98, 121, 40, 122, 111, 110, 101, 41, 40, 114, 101, 113, 123, 99, 111, 100, 101, 94, 61, 34, 53, 34, 125, 46, 114, 97, 116, 101, 40, 54, 48, 41, 41, 47, 50]
def liveT : Tree := .node ⟨3, 3, 0, 0, 0, 0, 0, ⟨#[]⟩, [], []⟩ [.node ⟨2, 0, 0, 0, 0, 0, 0, ⟨#[]⟩, [], [⟨#[122, 111, 110, 101]⟩]⟩ [.node ⟨1, 6, 60, 0, 0, 0, 0, ⟨#[114, 101, 113]⟩, [(⟨#[99, 111, 100, 101]⟩, 2, ⟨#[53]⟩)], []⟩ []], .node ⟨0, 0, 0, 0, 0, 2, 1, ⟨#[]⟩, [], []⟩ []]
theorem live_p1 : parseT live1 = (liveT, 0, 0) := by kernel_rfl
theorem live_p2 : parseT live2 = (zeroT, 8, 5) := by kernel_rfl
theorem live_pr : printT liveT = (liveP, 0) := by kernel_rfl
/-- Parse at a text whose parse is known -/
theorem parse_at (s : ByteArray) (T : Tree) (a er : Int) (w : World) (hs : s.size ≤ maxLen) (hw : WordsV w) (hp : parseT (lst s) = (T, a, er)) :
    Calls Tryz.prog 31 #[.string s] w fun e w' => ∃ mv bv kv, e = .returned (.tuple #[.agg (ndC T.d mv bv kv), .int .i64 a, .int .i64 er]) ∧ TreeAt w' (fun b _ => w.heap.size ≤ b) T (mv, bv, kv) ∧ Below w.heap.size w w' :=
  (pparse_any s w hs hw).mono fun e w' ⟨mv, bv, kv, he, hT, hb⟩ => ⟨mv, bv, kv, by rw [he, hp], by rw [hp] at hT; exact hT, hb⟩
theorem LibP.v {w : World} (h : LibP w) : WordsV w := ⟨h.grp, h.fn, h.mat, h.opr⟩
theorem print_at (T : Tree) (l : List UInt8) (er : Int) (P : Nat → Nat → Prop) (w : World) (s : Sl) (hT : TreeAt w P T s) (hl : LibP w) (hp : printT T = (l, er)) : Calls Tryz.prog 29 #[.agg (ndC T.d s.1 s.2.1 s.2.2)] w (RetB (.tuple #[.string (bsL l), .int .i64 er]) w) :=
  (pprint_any T P w s hT hl).mono fun e w' ⟨he, hb⟩ => ⟨by rw [he, hp], hb⟩
set_option maxHeartbeats 4000000 in
set_option maxRecDepth 100000 in
theorem lives_true (w : World) (hl : LibP w) : Calls Tryz.prog 16 #[] w (RetB (.bool true) w) := by
  have HL := Box.mk hl
  clear hl
  go_enter Tryz.func16, Tryz.ntmps16
  go_wp2_with fail
  refine (parse_at _ liveT 0 0 _ (by unfold maxLen; decide +kernel) HL.out.v live_p1).mono ?_
  rintro e w1 ⟨mv, bv, kv, rfl, hT, hb⟩
  have HPR : Box (printT liveT = (liveP, 0)) := ⟨live_pr⟩
  obtain ⟨T, hTe⟩ : ∃ T, liveT = T := ⟨_, rfl⟩
  rw [hTe] at hT HPR ⊢
  clear hTe
  obtain ⟨d, ks⟩ := T
  obtain ⟨A1, n1, rfl, l1⟩ := hT.nod.ms.form
  obtain ⟨A2, n2, rfl, l2⟩ := hT.nod.bys.form
  obtain ⟨A3, n3, rfl, l3⟩ := hT.nod.kform
  have HB := Box.mk hb
  have HT := Box.mk (hT.belo (bel1 w1 (.cells (ndC d (.slice A1 d.ms.length n1) (.slice A2 d.bys.length n2) (.slice A3 ks.length n3)) exT)))
  have HK : Box (Blk (w1.alloc (.cells (ndC d (.slice A1 d.ms.length n1) (.slice A2 d.bys.length n2) (.slice A3 ks.length n3)) exT)) w1.heap.size exT (ndC d (.slice A1 d.ms.length n1) (.slice A2 d.bys.length n2) (.slice A3 ks.length n3))) := ⟨Blk.new _ _ _⟩
  have HB2 : Box (Below w.heap.size w (w1.alloc (.cells (ndC d (.slice A1 d.ms.length n1) (.slice A2 d.bys.length n2) (.slice A3 ks.length n3)) exT))) := ⟨bthen hb (bel1 _ _) (Nat.le_refl _)⟩
  clear hT hb HB
  simp only [Tree.d]
  go_upto_region 2 with (fail)
  generalize w1.heap.size = g at *
  generalize w1.alloc (.cells (ndC d (.slice A1 d.ms.length n1) (.slice A2 d.bys.length n2) (.slice A3 ks.length n3)) exT) = W at *
  obtain ⟨c0, c1, c2, c3, c4, c5, c6, c7, c8, c9, c10⟩ := blk11 HK.out
  simp only [Nat.zero_add] at c1 c2 c3 c4 c5 c6 c7 c8 c9 c10
  go_wp2_with fail
  refine (print_at (.node d ks) liveP 0 _ _ (_, _, _) HT.out (HL.out.below HB2.out) HPR.out).mono ?_
  rintro e w2 ⟨rfl, hb⟩
  have HB3 : Box (Below w.heap.size w w2) := ⟨bthen HB2.out hb (Nat.le_refl _)⟩
  clear hb c0 c1 c2 c3 c4 c5 c6 c7 c8 c9 c10 HT HK HB2 HPR
  obtain ⟨z, hz⟩ : ∃ z, bsL liveP = z := ⟨_, rfl⟩
  have hz1 : (z.toList == [115, 117, 109, 32, 98, 121, 40, 122, 111, 110, 101, 41, 40, 114, 101, 113, 123, 99, 111, 100, 101, 94, 61, 34, 53, 34, 125, 46, 114, 97, 116, 101, 40, 54, 48, 41, 41, 47, 50]) = true := by rw [← hz]; decide +kernel
  rw [hz]
  clear hz
  go_wp2_with fail
  refine (parse_at _ zeroT 8 5 _ (by unfold maxLen; decide +kernel) (HL.out.below HB3.out).v live_p2).mono ?_
  rintro e w3 ⟨mv, bv, kv, rfl, hT, hb⟩
  have HB4 : Box (Below w.heap.size w w3) := ⟨bthen HB3.out hb (Nat.le_refl _)⟩
  clear hb
  obtain ⟨T, hTe⟩ : ∃ T, zeroT = T := ⟨_, rfl⟩
  rw [hTe] at hT ⊢
  clear hTe
  obtain ⟨d, ks⟩ := T
  obtain ⟨A1, n1, rfl, l1⟩ := hT.nod.ms.form
  obtain ⟨A2, n2, rfl, l2⟩ := hT.nod.bys.form
  obtain ⟨A3, n3, rfl, l3⟩ := hT.nod.kform
  clear hT
  simp only [Tree.d]
  go_upto_region 4 with (fail)
  have HB5 : Box (Below w.heap.size w (w3.alloc (.cells (ndC d (.slice A1 d.ms.length n1) (.slice A2 d.bys.length n2) (.slice A3 ks.length n3)) exT))) := ⟨bthen HB4.out (bel1 _ _) (Nat.le_refl _)⟩
  generalize w3.alloc (.cells (ndC d (.slice A1 d.ms.length n1) (.slice A2 d.bys.length n2) (.slice A3 ks.length n3)) exT) = W5 at *
  go_wp2_with fail
  go_ret
  exact ⟨rfl, HB5.out⟩
end
section
open Go.RowKit FracM

theorem Ints.toP {w : World} {v : Value} {l : List Int} (h : Ints w w.heap.size v l) : IntsP w v l := by
  obtain ⟨⟨h1, A, c, hv, hn, hc, hx⟩, hz⟩ := h
  refine ⟨⟨h1, A, c, hv, hn, hc, fun h0 => ?_⟩, hz⟩
  obtain ⟨b, off, hA, hf, hcl⟩ := hx h0
  exact ⟨b, off, hA, hf.1, hf.1, hcl⟩
/-- a variable that holds a tree -/
structure TB (W : World) (g : Nat) (t : Tree) (s : Sl) : Prop where
  box : Blk W g 29 (ndC t.d s.1 s.2.1 s.2.2)
  tr : TreeAt W AnyP t s
theorem TB.next {W W' : World} {g : Nat} {t : Tree} {s : Sl} (h : TB W g t s) (hb : Below W.heap.size W W') : TB W' g t s := ⟨h.box.below hb, (h.tr.low.keep (Agree.of_below hb)).mono fun _ _ _ _ => trivial⟩
theorem TB.new {W : World} {t : Tree} {s : Sl} (h : TreeAt W AnyP t s) : TB (W.alloc (.cells (ndC t.d s.1 s.2.1 s.2.2) 29)) W.heap.size t s := ⟨Blk.new _ _ _, (h.low.keep (Agree.of_below (bel1 _ _))).mono fun _ _ _ _ => trivial⟩
structure T3 (w W : World) (g1 : Nat) (t1 : Tree) (s1 : Sl) (g2 : Nat) (t2 : Tree) (s2 : Sl) (g3 : Nat) (t3 : Tree) (s3 : Sl) : Prop where
  below : Below w.heap.size w W
  x1 : TB W g1 t1 s1
  x2 : TB W g2 t2 s2
  x3 : TB W g3 t3 s3
theorem T3.next {w W W' : World} {g1 g2 g3 : Nat} {t1 t2 t3 : Tree} {s1 s2 s3 : Sl} (h : T3 w W g1 t1 s1 g2 t2 s2 g3 t3 s3) (hb : Below W.heap.size W W') : T3 w W' g1 t1 s1 g2 t2 s2 g3 t3 s3 :=
  ⟨bthen h.below hb (Nat.le_refl _), h.x1.next hb, h.x2.next hb, h.x3.next hb⟩
theorem T3.drew {w W : World} {g1 g2 g3 : Nat} {t1 t2 t3 : Tree} {s1 s2 s3 : Sl} (h : T3 w W g1 t1 s1 g2 t2 s2 g3 t3 s3) : T3 w W.drew g1 t1 s1 g2 t2 s2 g3 t3 s3 := h.next (below_drewN W 1)
end
section
open Go.RowKit FracM

def bound (n most : Int) : Int := around n (2 * most + 1) - most
end
section
open Go.RowKit FracM

set_option maxHeartbeats 1000000 in
theorem new_any (num den : Int) (w : World) (l1 : -9223372036854775808 ≤ num) (u1 : num ≤ 9223372036854775807) (l2 : -9223372036854775808 ≤ den) (u2 : den ≤ 9223372036854775807) :
    Calls Tryz.prog 27 #[.int .i64 num, .int .i64 den] w (RetF (newF num den) w) := by
  by_cases h0 : den = 0
  · have E := Lib.hid (new_zero num den h0)
    have h0' : (den == 0) = true := by simp [h0]
    clear h0
    go_enter Tryz.func27, Tryz.ntmps27
    go_wp2
    refine bodyPost_ret (v := .tuple #[.agg #[.int .i64 0, .int .i64 0], .int .i64 6]) (by simp [results, Tryz.results27, go_sem]) rfl (retF E.out rfl (bel1 _ _))
  have h0' : (den == 0) = false := by simpa using h0
  by_cases h1 : num = -9223372036854775808
  · have E := Lib.hid (new_min num den h0 (.inl h1))
    have h1' : (num == -9223372036854775808) = true := by simp [h1]
    clear h1
    go_enter Tryz.func27, Tryz.ntmps27
    go_wp2
    refine bodyPost_ret (v := .tuple #[.agg #[.int .i64 0, .int .i64 0], .int .i64 5]) (by simp [results, Tryz.results27, go_sem]) rfl (retF E.out rfl (bel1 _ _))
  have h1' : (num == -9223372036854775808) = false := by simpa using h1
  by_cases h2 : den = -9223372036854775808
  · have E := Lib.hid (new_min num den h0 (.inr h2))
    have h2' : (den == -9223372036854775808) = true := by simp [h2]
    clear h2
    go_enter Tryz.func27, Tryz.ntmps27
    go_wp2
    refine bodyPost_ret (v := .tuple #[.agg #[.int .i64 0, .int .i64 0], .int .i64 5]) (by simp [results, Tryz.results27, go_sem]) rfl (retF E.out rfl (bel1 _ _))
  have h2' : (den == -9223372036854775808) = false := by simpa using h2
  have H0 := Lib.hid h0; have H1 := Lib.hid h1; have H2 := Lib.hid h2
  have k1 : -9223372036854775807 ≤ num := by omega
  have k2 : -9223372036854775807 ≤ den := by omega
  by_cases hs : den < 0
  · obtain ⟨d, hd⟩ : ∃ d : Nat, den = -(d : Int) := ⟨den.natAbs, by omega⟩
    have k3 : 1 ≤ d := by omega
    have k4 : d ≤ 9223372036854775807 := by omega
    have E : Hid (newF num den = low (-num) d) := new_low num den h0 h1 h2 (by rw [if_pos hs]) (by omega)
    obtain ⟨g, hg⟩ : ∃ g, g = Nat.gcd num.natAbs d := ⟨_, rfl⟩
    have g1 : 1 ≤ g := by rw [hg]; exact Nat.gcd_pos_of_pos_right _ (by omega)
    have g2 : g ≤ d := by rw [hg]; exact Nat.gcd_le_right _ (by omega)
    obtain ⟨a, ha⟩ : ∃ a, (-num).tdiv g = a := ⟨_, rfl⟩
    obtain ⟨b, hb⟩ : ∃ b, d / g = b := ⟨_, rfl⟩
    have b1 : b ≤ 9223372036854775807 := by rw [← hb]; exact Nat.le_trans (Nat.div_le_self _ _) k4
    have a1 : a.natAbs ≤ num.natAbs := by rw [← ha, Int.natAbs_tdiv]; rw [Int.natAbs_neg]; exact Nat.div_le_self _ _
    clear h0 h1 h2
    subst hd
    have HG : Hid (g = Nat.gcd num.natAbs d ∧ (-num).tdiv g = a ∧ d / g = b ∧ g = Nat.gcd (-num).natAbs d) := ⟨hg, ha, hb, by rw [Int.natAbs_neg]; exact hg⟩; clear hg ha hb
    go_enter Tryz.func27, Tryz.ntmps27
    go_wp2_with (first
      | (go_at_call 48; refine (abs_any _ _ (by omega) (by omega)).mono ?_; rintro e w' ⟨rfl, rfl⟩)
      | (go_at_call 47; refine (gcd_any _ _ _ (by omega) (by omega)).mono ?_; rintro e w' ⟨rfl, nq, rfl⟩; rw [← HG.out.1]))
    have z1 : ((g : Int) == 0) = false := by simp; omega
    have y1 : IntKind.i64.wrap ((-num).tdiv (g : Int)) = a := by rw [HG.out.2.1]; exact fin_i64 _ (by omega) (by omega)
    have y4 : IntKind.i64.wrap (-(num.tdiv (g : Int))) = a := by rw [← Int.neg_tdiv, HG.out.2.1]; exact fin_i64 _ (by omega) (by omega)
    have y2 : IntKind.i64.wrap ((d : Int).tdiv (g : Int)) = (b : Int) := by rw [← Int.ofNat_tdiv, HG.out.2.2.1]; exact fin_i64 _ (by omega) (by omega)
    have y3 : IntKind.i64.wrap ((d : Int) / (g : Int)) = (b : Int) := by rw [← Int.natCast_ediv, HG.out.2.2.1]; exact fin_i64 _ (by omega) (by omega)
    go_quiet (fail)
    clear y1 y4 y2 y3 z1
    by_cases t1 : 4611686018427387904 < a.natAbs
    · have EE := Lib.hid (E.out.trans (low_no HG.out.2.2.2 HG.out.2.1 HG.out.2.2.1 (.inl t1)))
      go_wp2_with (go_at_call 48; refine (abs_any _ _ (by omega) (by omega)).mono ?_; rintro e w' ⟨rfl, rfl⟩)
      refine bodyPost_ret (v := .tuple #[.agg #[.int .i64 0, .int .i64 0], .int .i64 5]) (by simp [results, Tryz.results27, go_sem]) rfl (retF EE.out rfl (((bdrew (bel1 _ _) _).setCell (by simp) _).setCell (by simp) _))
    · by_cases t2 : 4611686018427387904 < b
      · have EE := Lib.hid (E.out.trans (low_no HG.out.2.2.2 HG.out.2.1 HG.out.2.2.1 (.inr t2)))
        go_wp2_with (go_at_call 48; refine (abs_any _ _ (by omega) (by omega)).mono ?_; rintro e w' ⟨rfl, rfl⟩)
        refine bodyPost_ret (v := .tuple #[.agg #[.int .i64 0, .int .i64 0], .int .i64 5]) (by simp [results, Tryz.results27, go_sem]) rfl (retF EE.out rfl (((bdrew (bel1 _ _) _).setCell (by simp) _).setCell (by simp) _))
      · have EE := Lib.hid (E.out.trans (low_yes HG.out.2.2.2 HG.out.2.1 HG.out.2.2.1 (by omega) (by omega)))
        go_wp2_with (go_at_call 48; refine (abs_any _ _ (by omega) (by omega)).mono ?_; rintro e w' ⟨rfl, rfl⟩)
        refine bodyPost_ret (v := .tuple #[.agg #[.int .i64 a, .int .i64 b], .int .i64 0]) (by simp [results, Tryz.results27, go_sem]) rfl (retF EE.out rfl (((bdrew (bel1 _ _) _).setCell (by simp) _).setCell (by simp) _))
  · obtain ⟨d, hd⟩ : ∃ d : Nat, den = (d : Int) := ⟨den.natAbs, by omega⟩
    have k3 : 1 ≤ d := by omega
    have k4 : d ≤ 9223372036854775807 := by omega
    have E : Hid (newF num den = low num d) := new_low num den h0 h1 h2 (by rw [if_neg hs]) (by omega)
    obtain ⟨g, hg⟩ : ∃ g, g = Nat.gcd num.natAbs d := ⟨_, rfl⟩
    have g1 : 1 ≤ g := by rw [hg]; exact Nat.gcd_pos_of_pos_right _ (by omega)
    have g2 : g ≤ d := by rw [hg]; exact Nat.gcd_le_right _ (by omega)
    obtain ⟨a, ha⟩ : ∃ a, num.tdiv g = a := ⟨_, rfl⟩
    obtain ⟨b, hb⟩ : ∃ b, d / g = b := ⟨_, rfl⟩
    have b1 : b ≤ 9223372036854775807 := by rw [← hb]; exact Nat.le_trans (Nat.div_le_self _ _) k4
    have a1 : a.natAbs ≤ num.natAbs := by rw [← ha, Int.natAbs_tdiv]; exact Nat.div_le_self _ _
    clear h0 h1 h2
    subst hd
    have HG : Hid (g = Nat.gcd num.natAbs d ∧ num.tdiv g = a ∧ d / g = b ∧ g = Nat.gcd num.natAbs d) := ⟨hg, ha, hb, by exact hg⟩; clear hg ha hb
    go_enter Tryz.func27, Tryz.ntmps27
    go_wp2_with (first
      | (go_at_call 48; refine (abs_any _ _ (by omega) (by omega)).mono ?_; rintro e w' ⟨rfl, rfl⟩)
      | (go_at_call 47; refine (gcd_any _ _ _ (by omega) (by omega)).mono ?_; rintro e w' ⟨rfl, nq, rfl⟩; rw [← HG.out.1]))
    have z1 : ((g : Int) == 0) = false := by simp; omega
    have y1 : IntKind.i64.wrap (num.tdiv (g : Int)) = a := by rw [HG.out.2.1]; exact fin_i64 _ (by omega) (by omega)
    have y2 : IntKind.i64.wrap ((d : Int).tdiv (g : Int)) = (b : Int) := by rw [← Int.ofNat_tdiv, HG.out.2.2.1]; exact fin_i64 _ (by omega) (by omega)
    have y3 : IntKind.i64.wrap ((d : Int) / (g : Int)) = (b : Int) := by rw [← Int.natCast_ediv, HG.out.2.2.1]; exact fin_i64 _ (by omega) (by omega)
    go_quiet (fail)
    clear y1 y2 y3 z1
    by_cases t1 : 4611686018427387904 < a.natAbs
    · have EE := Lib.hid (E.out.trans (low_no HG.out.2.2.2 HG.out.2.1 HG.out.2.2.1 (.inl t1)))
      go_wp2_with (go_at_call 48; refine (abs_any _ _ (by omega) (by omega)).mono ?_; rintro e w' ⟨rfl, rfl⟩)
      refine bodyPost_ret (v := .tuple #[.agg #[.int .i64 0, .int .i64 0], .int .i64 5]) (by simp [results, Tryz.results27, go_sem]) rfl (retF EE.out rfl (((bdrew (bel1 _ _) _).setCell (by simp) _).setCell (by simp) _))
    · by_cases t2 : 4611686018427387904 < b
      · have EE := Lib.hid (E.out.trans (low_no HG.out.2.2.2 HG.out.2.1 HG.out.2.2.1 (.inr t2)))
        go_wp2_with (go_at_call 48; refine (abs_any _ _ (by omega) (by omega)).mono ?_; rintro e w' ⟨rfl, rfl⟩)
        refine bodyPost_ret (v := .tuple #[.agg #[.int .i64 0, .int .i64 0], .int .i64 5]) (by simp [results, Tryz.results27, go_sem]) rfl (retF EE.out rfl (((bdrew (bel1 _ _) _).setCell (by simp) _).setCell (by simp) _))
      · have EE := Lib.hid (E.out.trans (low_yes HG.out.2.2.2 HG.out.2.1 HG.out.2.2.1 (by omega) (by omega)))
        go_wp2_with (go_at_call 48; refine (abs_any _ _ (by omega) (by omega)).mono ?_; rintro e w' ⟨rfl, rfl⟩)
        refine bodyPost_ret (v := .tuple #[.agg #[.int .i64 a, .int .i64 b], .int .i64 0]) (by simp [results, Tryz.results27, go_sem]) rfl (retF EE.out rfl (((bdrew (bel1 _ _) _).setCell (by simp) _).setCell (by simp) _))
end
end Go.Proofs.YthoibeajhdhdhaaGreatDoor
