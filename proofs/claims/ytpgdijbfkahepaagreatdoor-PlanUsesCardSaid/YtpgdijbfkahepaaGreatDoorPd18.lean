/- Contracts, packed: Qy. -/
import Derived.Test.YtpgdijbfkahepaaGreatDoorPd17
set_option linter.unusedVariables false
set_option linter.unusedSimpArgs false
namespace Go.Proofs.YtpgdijbfkahepaaGreatDoor
section
section
open Go.RowKit FracM
/-- a tree is returned -/
def RetT2 (ns : List ByteArray) (most : Int) (w : World) (e : Ending) (w' : World) : Prop :=
 ∃ (t : Tree) (s : Sl), e = .returned (.agg (ndC t.d s.1 s.2.1 s.2.2)) ∧ TreeF w' w.heap.size t s ∧ GoodT ns most t ∧ dep t ≤ 4 ∧ nds t ≤ 15 ∧ Below w.heap.size w w'
theorem gen_ok (g : Nat) (lv nv : Value) (l : List Int) (ns : List ByteArray) (most : Int) (hok : NamesOk ns) (hns : 1 ≤ ns.length) (hns2 : ns.length ≤ 1000) (hm : 1 ≤ most) (hm2 : most ≤ 4096) : ExprOk g lv nv l ns most 4 15 :=
 expr_any g lv nv l ns most 4 7 (fun _ => expr_any g lv nv l ns most 3 3 (fun _ => expr_any g lv nv l ns most 2 1 (fun _ => expr_any g lv nv l ns most 1 0 (fun h => by omega) (by omega) (by omega) hok hns hns2 hm hm2) (by omega) (by omega) hok hns hns2 hm hm2) (by omega) (by omega) hok hns hns2 hm hm2) (by omega) (by omega) hok hns hns2 hm hm2
def IntsP (w : World) (v : Value) (l : List Int) : Prop := SeqP w (fun b _ => b < w.heap.size) 1 v l.length (l.map (Value.int .i64)) ∧ ∀ x ∈ l, I64 x
def StrsL (w : World) (v : Value) (l : List ByteArray) : Prop := SeqP w (fun b _ => b < w.heap.size) 1 v l.length (l.map Value.string)
set_option maxHeartbeats 2000000 in
set_option maxRecDepth 100000 in
theorem make_any (lv nv : Value) (l : List Int) (ns : List ByteArray) (most : Int) (w : World) (h1 : IntsP w lv l) (h2 : StrsL w nv ns) (hok : NamesOk ns) (hns : 1 ≤ ns.length) (hns2 : ns.length ≤ 1000) (hm0 : 1 < most) (hm2 : most ≤ 4096) :
  Calls Tryz.prog 16 #[lv, nv, .int .i64 most] w (RetT2 ns most w) := by
 have hm : 1 ≤ most := by omega
 have hm3 : ¬ most ≤ 1 := by omega
 have hm4 : ¬ most < 1 := by omega
 have HE := gen_ok (w.heap.size + 1) lv nv l ns most hok hns hns2 hm hm2
 unfold ExprOk at HE
 have HE := Box.mk HE
 have HG : Box (GenAt ((w.alloc (.cells zeroC 35)).alloc (.cells #[lv, .int .i64 0, nv, .int .i64 most] 70)) (w.heap.size + 1) 0 lv nv l ns most) := ⟨⟨Blk.newAt _ _ (by simp), (h1.1.mono fun b e hb hp => by show b < w.heap.size + 1; omega).keep (Agree.of_below (bel2 _ _ _)), h1.2, (h2.mono fun b e hb hp => by show b < w.heap.size + 1; omega).keep (Agree.of_below (bel2 _ _ _))⟩⟩
 have HP : Box (Blk ((w.alloc (.cells zeroC 35)).alloc (.cells #[lv, .int .i64 0, nv, .int .i64 most] 70)) w.heap.size 35 zeroC ∧ Below w.heap.size w ((w.alloc (.cells zeroC 35)).alloc (.cells #[lv, .int .i64 0, nv, .int .i64 most] 70))) := ⟨(Blk.new _ _ _).alloc _, bel2 _ _ _⟩
 obtain ⟨A1, c1, rfl, -⟩ := h1.1.form
 obtain ⟨A2, c2, rfl, -⟩ := h2.form
 have hz : ((w.alloc (.cells zeroC 35)).alloc (.cells #[.slice A1 l.length c1, .int .i64 0, .slice A2 ns.length c2, .int .i64 most] 70)).heap.size = w.heap.size + 2 := by simp
 clear h1 h2
 go_enter Tryz.func16, Tryz.ntmps16
 have hmx : max 1 most = most := by omega
 go_wp2_with fail
 generalize ((w.alloc (.cells zeroC 35)).alloc (.cells #[.slice A1 l.length c1, .int .i64 0, .slice A2 ns.length c2, .int .i64 most] 70)) = W at *
 have HZ := Box.mk hz
 clear hz hmx
 (with_reducible refine (HE.out 0 W HG.out (by omega) (by omega)).mono ?_)
 rintro e w2 ⟨t, s, i8, rfl, ht8, hgd8, hd8, hn8, hi8, hi9, hg8, ho8⟩
 obtain ⟨d, ks⟩ := t
 obtain ⟨mv, bv, kv⟩ := s
 obtain ⟨A1, n1, rfl, -⟩ := ht8.form.1
 obtain ⟨A2, n2, rfl, -⟩ := ht8.form.2.1
 obtain ⟨A3, n3, rfl, -⟩ := ht8.form.2.2
 simp only [Tree.d]
 have hR := ho8.blk HP.out.1 (by omega)
 have HR := Box.mk hR
 have HT := Box.mk (ht8.lower (B' := w.heap.size + 1) (by have := HZ.out; omega))
 have HO : Box (Below w.heap.size w w2) := ⟨HP.out.2.trans (ho8.below (by omega) HP.out.2.size)⟩
 have HD := Box.mk (And.intro hgd8 (And.intro hd8 hn8))
 clear ht8 hgd8 hd8 hn8 hi8 hi9 hg8 ho8 HG HP hR
 obtain ⟨z0, z1, z2, z3, z4, z5, z6, z7, z8, z9, z10⟩ := blk11 HR.out
 simp only [Nat.zero_add] at z1 z2 z3 z4 z5 z6 z7 z8 z9 z10
 have zf := HR.out.frozen
 go_wp2_with fail
 have HF : Box (Blk (put11 w2 w.heap.size (.int .i64 d.kind) (.int .i64 d.fn) (.int .i64 d.win) (.int .i64 d.off) (.int .i64 d.k) (.int .i64 d.num) (.int .i64 d.den) (.string d.name) (.slice A1 d.ms.length n1) (.slice A2 d.bys.length n2) (.slice A3 ks.length n3)) w.heap.size 35 (ndC d (.slice A1 d.ms.length n1) (.slice A2 d.bys.length n2) (.slice A3 ks.length n3))) := ⟨put11_blk HR.out⟩
 have HA : Box (Below w.heap.size w (put11 w2 w.heap.size (.int .i64 d.kind) (.int .i64 d.fn) (.int .i64 d.win) (.int .i64 d.off) (.int .i64 d.k) (.int .i64 d.num) (.int .i64 d.den) (.string d.name) (.slice A1 d.ms.length n1) (.slice A2 d.bys.length n2) (.slice A3 ks.length n3)) ∧ TreeF (put11 w2 w.heap.size (.int .i64 d.kind) (.int .i64 d.fn) (.int .i64 d.win) (.int .i64 d.off) (.int .i64 d.k) (.int .i64 d.num) (.int .i64 d.den) (.string d.name) (.slice A1 d.ms.length n1) (.slice A2 d.bys.length n2) (.slice A3 ks.length n3)) (w.heap.size + 1) (.node d ks) (.slice A1 d.ms.length n1, .slice A2 d.bys.length n2, .slice A3 ks.length n3)) := ⟨HO.out.trans (put11_below (Nat.le_refl _) ..), HT.out.far (put11_only ..) (by omega)⟩
 show bodyPost _ _ _ _ _ (put11 w2 w.heap.size (.int .i64 d.kind) (.int .i64 d.fn) (.int .i64 d.win) (.int .i64 d.off) (.int .i64 d.k) (.int .i64 d.num) (.int .i64 d.den) (.string d.name) (.slice A1 d.ms.length n1) (.slice A2 d.bys.length n2) (.slice A3 ks.length n3))
 generalize (put11 w2 w.heap.size (.int .i64 d.kind) (.int .i64 d.fn) (.int .i64 d.win) (.int .i64 d.off) (.int .i64 d.k) (.int .i64 d.num) (.int .i64 d.den) (.string d.name) (.slice A1 d.ms.length n1) (.slice A2 d.bys.length n2) (.slice A3 ks.length n3)) = WF at HF HA ⊢
 clear HR HT HO z0 z1 z2 z3 z4 z5 z6 z7 z8 z9 z10 zf
 obtain ⟨e0, e1, e2, e3, e4, e5, e6, e7, e8, e9, e10⟩ := blk11 HF.out
 simp only [Nat.zero_add] at e1 e2 e3 e4 e5 e6 e7 e8 e9 e10
 have ef := HF.out.frozen
 refine bodyPost_ret (v := .agg (ndC d (.slice A1 d.ms.length n1) (.slice A2 d.bys.length n2) (.slice A3 ks.length n3))) (by simp [results, Tryz.results16, go_sem, e0, e1, e2, e3, e4, e5, e6, e7, e8, e9, e10, ef]) rfl ?_
 obtain ⟨y1, y2, y3⟩ := HD.out
 exact ⟨.node d ks, (.slice A1 d.ms.length n1, .slice A2 d.bys.length n2, .slice A3 ks.length n3), rfl, HA.out.2.lower (by omega), y1, by omega, y3, HA.out.1⟩
theorem good_sub {ns ns' : List ByteArray} {most : Int} (hs : ∀ x ∈ ns, x ∈ ns') {t : Tree} (h : GoodT ns most t) : GoodT ns' most t := by
 induction h with
 | mk d ks h hk ih =>
  refine .mk d ks ?_ ih
  generalize ks.length = n at h ⊢
  cases h with
  | num x hx => exact .num x hx
  | sel fn win off k nm ms h1 h2 hn ho ho2 hw hk hl hm => exact .sel fn win off k nm ms h1 h2 (hs nm hn) ho ho2 hw hk hl hm
  | grp fn k bys h1 h2 hk hb => exact .grp fn k bys h1 h2 hk hb
  | bin fn h1 h2 => exact .bin fn h1 h2
end
section
open Go.RowKit FracM
theorem IntsP.belo {w w' : World} {v : Value} {l : List Int} (h : IntsP w v l) (f : Below w.heap.size w w') : IntsP w' v l := ⟨(h.1.mono fun b e hb hp => by have := f.size; omega).keep (Agree.of_below f), h.2⟩
theorem IntsP.cons {w : World} {A : Option Addr} {n c : Nat} {x : Int} {l : List Int} (h : IntsP w (.slice A n c) (x :: l)) : ∃ b off, A = some ⟨b, off, none⟩ ∧ n = l.length + 1 ∧ l.length + 1 ≤ c ∧ c ≤ 9223372036854775807 ∧ w.cell? ⟨b, off, none⟩ = some (.int .i64 x) ∧ I64 x ∧ (c ≠ 1 → IntsP w (.slice (some ⟨b, off + 1, none⟩) l.length (c - 1)) l) ∧ (c = 1 → l = []) := by
 obtain ⟨⟨h1, A', c', hv, h3, h4, h2⟩, hz⟩ := h
 cases hv
 obtain ⟨b, off, rfl, hb, hp, hx⟩ := h2 (by simp)
 unfold maxLen at h4
 simp only [List.length_cons] at h3 hp
 refine ⟨b, off, rfl, by simp, by omega, by omega, by simpa using hx 0 _ rfl, hz x (by simp), fun hc => ⟨⟨by simp, _, _, rfl, by omega, by unfold maxLen; omega, fun h0 => ⟨b, off + 1, rfl, hb, by simpa using hb, fun j u hu => ?_⟩⟩, fun y hy => hz y (by simp [hy])⟩, fun hc => ?_⟩
 ·have := hx (j + 1) u (by simpa using hu)
  rw [show off + 1 + j = off + (j + 1) by omega]; exact this
 ·exact List.eq_nil_of_length_eq_zero (by omega)
theorem IntsP.nil (w : World) (A : Option Addr) (c : Nat) (hc : c ≤ 1000) : IntsP w (.slice A 0 c) [] := ⟨⟨rfl, _, _, rfl, by simp, by unfold maxLen; omega, fun h => by simp at h⟩, fun x hx => by simp at hx⟩
theorem ns1_sub : ∀ x ∈ ns1, x ∈ ns3 := by
 intro x hx
 simp [ns1] at hx; subst hx; simp [ns3]
set_option maxHeartbeats 4000000 in
set_option maxRecDepth 100000 in
theorem query_any (lv : Value) (l : List Int) (w : World) (h1 : IntsP w lv l) :
  Calls Tryz.prog 6 #[lv] w (RetT2 ns3 5 w) := by
 obtain ⟨A1, c1, rfl, hlen⟩ := h1.1.form
 have HI0 := Box.mk h1
 cases l with
 | nil =>
  clear h1
  go_enter Tryz.func6, Tryz.ntmps6
  have HP : Box (Blk ((w.alloc (.cells zeroC 35)).alloc (.cells #[.string ⟨#[99, 112, 117]⟩, .string ⟨#[109, 101, 109]⟩, .string ⟨#[97]⟩] 9)) w.heap.size 35 zeroC ∧ Below w.heap.size w ((w.alloc (.cells zeroC 35)).alloc (.cells #[.string ⟨#[99, 112, 117]⟩, .string ⟨#[109, 101, 109]⟩, .string ⟨#[97]⟩] 9))) := ⟨(Blk.new _ _ _).alloc _, bel2 _ _ _⟩
  have HI : Box (IntsP ((w.alloc (.cells zeroC 35)).alloc (.cells #[.string ⟨#[99, 112, 117]⟩, .string ⟨#[109, 101, 109]⟩, .string ⟨#[97]⟩] 9)) (.slice A1 0 c1) []) := ⟨IntsP.belo HI0.out (bel2 _ _ _)⟩
  have HS : Box (StrsL ((w.alloc (.cells zeroC 35)).alloc (.cells #[.string ⟨#[99, 112, 117]⟩, .string ⟨#[109, 101, 109]⟩, .string ⟨#[97]⟩] 9)) (.slice (some ⟨w.heap.size + 1, 0, none⟩) 3 3) ns3) := ⟨SeqP.of_blk (n := 3) (size := 1) (Blk.newAt _ _ (by simp)) rfl (by omega) (by simp)⟩
  go_wp2_with fail
  (with_reducible refine (make_any (.slice A1 0 c1) (.slice (some ⟨w.heap.size + 1, 0, none⟩) 3 3) [] ns3 5 _ HI.out HS.out ns3_ok (by decide) (by decide) (by omega) (by omega)).mono ?_)
  rintro e w2 ⟨t, s, rfl, ht8, hgd8, hd8, hn8, ho8⟩
  obtain ⟨d, ks⟩ := t
  obtain ⟨mv, bv, kv⟩ := s
  obtain ⟨A1, n1, rfl, -⟩ := ht8.form.1
  obtain ⟨A2, n2, rfl, -⟩ := ht8.form.2.1
  obtain ⟨A3, n3, rfl, -⟩ := ht8.form.2.2
  simp only [Tree.d]
  have HR := Box.mk (HP.out.1.below ho8)
  have HT := Box.mk (ht8.lower (B' := w.heap.size + 1) (by simp))
  have HO := Box.mk (HP.out.2.trans (ho8.mono HP.out.2.size))
  have HD := Box.mk (And.intro (good_sub (ns' := ns3) (fun _ h => h) hgd8) (And.intro hd8 hn8))
  clear ht8 hgd8 hd8 hn8 ho8 HP
  obtain ⟨z0, z1, z2, z3, z4, z5, z6, z7, z8, z9, z10⟩ := blk11 HR.out
  simp only [Nat.zero_add] at z1 z2 z3 z4 z5 z6 z7 z8 z9 z10
  have zf := HR.out.frozen
  go_wp2_with fail
  have HF : Box (Blk (put11 w2 w.heap.size (.int .i64 d.kind) (.int .i64 d.fn) (.int .i64 d.win) (.int .i64 d.off) (.int .i64 d.k) (.int .i64 d.num) (.int .i64 d.den) (.string d.name) (.slice A1 d.ms.length n1) (.slice A2 d.bys.length n2) (.slice A3 ks.length n3)) w.heap.size 35 (ndC d (.slice A1 d.ms.length n1) (.slice A2 d.bys.length n2) (.slice A3 ks.length n3))) := ⟨put11_blk HR.out⟩
  have HA : Box (Below w.heap.size w (put11 w2 w.heap.size (.int .i64 d.kind) (.int .i64 d.fn) (.int .i64 d.win) (.int .i64 d.off) (.int .i64 d.k) (.int .i64 d.num) (.int .i64 d.den) (.string d.name) (.slice A1 d.ms.length n1) (.slice A2 d.bys.length n2) (.slice A3 ks.length n3)) ∧ TreeF (put11 w2 w.heap.size (.int .i64 d.kind) (.int .i64 d.fn) (.int .i64 d.win) (.int .i64 d.off) (.int .i64 d.k) (.int .i64 d.num) (.int .i64 d.den) (.string d.name) (.slice A1 d.ms.length n1) (.slice A2 d.bys.length n2) (.slice A3 ks.length n3)) (w.heap.size + 1) (.node d ks) (.slice A1 d.ms.length n1, .slice A2 d.bys.length n2, .slice A3 ks.length n3)) := ⟨HO.out.trans (put11_below (Nat.le_refl _) ..), HT.out.far (put11_only ..) (by omega)⟩
  show bodyPost _ _ _ _ _ (put11 w2 w.heap.size (.int .i64 d.kind) (.int .i64 d.fn) (.int .i64 d.win) (.int .i64 d.off) (.int .i64 d.k) (.int .i64 d.num) (.int .i64 d.den) (.string d.name) (.slice A1 d.ms.length n1) (.slice A2 d.bys.length n2) (.slice A3 ks.length n3))
  generalize (put11 w2 w.heap.size (.int .i64 d.kind) (.int .i64 d.fn) (.int .i64 d.win) (.int .i64 d.off) (.int .i64 d.k) (.int .i64 d.num) (.int .i64 d.den) (.string d.name) (.slice A1 d.ms.length n1) (.slice A2 d.bys.length n2) (.slice A3 ks.length n3)) = WF at HF HA ⊢
  clear HR HT HO z0 z1 z2 z3 z4 z5 z6 z7 z8 z9 z10 zf
  obtain ⟨e0, e1, e2, e3, e4, e5, e6, e7, e8, e9, e10⟩ := blk11 HF.out
  simp only [Nat.zero_add] at e1 e2 e3 e4 e5 e6 e7 e8 e9 e10
  have ef := HF.out.frozen
  refine bodyPost_ret (v := .agg (ndC d (.slice A1 d.ms.length n1) (.slice A2 d.bys.length n2) (.slice A3 ks.length n3))) (by simp [results, Tryz.results6, go_sem, e0, e1, e2, e3, e4, e5, e6, e7, e8, e9, e10, ef]) rfl ?_
  obtain ⟨y1, y2, y3⟩ := HD.out
  exact ⟨.node d ks, (.slice A1 d.ms.length n1, .slice A2 d.bys.length n2, .slice A3 ks.length n3), rfl, HA.out.2.lower (by omega), y1, y2, y3, HA.out.1⟩
 | cons x l =>
  obtain ⟨b, off, rfl, hn, hc1, hc2, hc, hx, ht, ht1⟩ := h1.cons
  have HT := Box.mk (And.intro ht ht1)
  clear h1 ht ht1 hn
  simp only [List.length_cons] at hlen hc1
  obtain ⟨hx1, hx2⟩ := hx
  have hcA := cell_alloc' (.cells zeroC 35) hc
  have hlen2 : 0 < l.length + 1 := by omega
  have hlen3 : (0 : Int) < ((l.length + 1 : Nat) : Int) := by omega
  by_cases hq : x.tmod 2 = 0
  ·have hq1 : (x.tmod 2 == 0) = true := by simpa using hq
   by_cases hcc : c1 = 1
   ·obtain rfl := HT.out.2 hcc
    subst hcc
    go_enter Tryz.func6, Tryz.ntmps6
    have HP : Box (Blk ((w.alloc (.cells zeroC 35)).alloc (.cells #[.string ⟨#[99, 112, 117]⟩] 9)) w.heap.size 35 zeroC ∧ Below w.heap.size w ((w.alloc (.cells zeroC 35)).alloc (.cells #[.string ⟨#[99, 112, 117]⟩] 9))) := ⟨(Blk.new _ _ _).alloc _, bel2 _ _ _⟩
    have HI : Box (IntsP ((w.alloc (.cells zeroC 35)).alloc (.cells #[.string ⟨#[99, 112, 117]⟩] 9)) (.slice (some ⟨b, off, none⟩) 0 0) []) := ⟨IntsP.belo (IntsP.nil _ _ _ (by omega)) (bel2 _ _ _)⟩
    have HS : Box (StrsL ((w.alloc (.cells zeroC 35)).alloc (.cells #[.string ⟨#[99, 112, 117]⟩] 9)) (.slice (some ⟨w.heap.size + 1, 0, none⟩) 1 1) ns1) := ⟨SeqP.of_blk (n := 1) (size := 1) (Blk.newAt _ _ (by simp)) rfl (by omega) (by simp)⟩
    go_wp2_with fail
    (with_reducible refine (make_any (.slice (some ⟨b, off, none⟩) 0 0) (.slice (some ⟨w.heap.size + 1, 0, none⟩) 1 1) [] ns1 5 _ HI.out HS.out ns1_ok (by decide) (by decide) (by omega) (by omega)).mono ?_)
    rintro e w2 ⟨t, s, rfl, ht8, hgd8, hd8, hn8, ho8⟩
    obtain ⟨d, ks⟩ := t
    obtain ⟨mv, bv, kv⟩ := s
    obtain ⟨A1, n1, rfl, -⟩ := ht8.form.1
    obtain ⟨A2, n2, rfl, -⟩ := ht8.form.2.1
    obtain ⟨A3, n3, rfl, -⟩ := ht8.form.2.2
    simp only [Tree.d]
    have HR := Box.mk (HP.out.1.below ho8)
    have HT := Box.mk (ht8.lower (B' := w.heap.size + 1) (by simp))
    have HO := Box.mk (HP.out.2.trans (ho8.mono HP.out.2.size))
    have HD := Box.mk (And.intro (good_sub (ns' := ns3) ns1_sub hgd8) (And.intro hd8 hn8))
    clear ht8 hgd8 hd8 hn8 ho8 HP
    obtain ⟨z0, z1, z2, z3, z4, z5, z6, z7, z8, z9, z10⟩ := blk11 HR.out
    simp only [Nat.zero_add] at z1 z2 z3 z4 z5 z6 z7 z8 z9 z10
    have zf := HR.out.frozen
    go_wp2_with fail
    have HF : Box (Blk (put11 w2 w.heap.size (.int .i64 d.kind) (.int .i64 d.fn) (.int .i64 d.win) (.int .i64 d.off) (.int .i64 d.k) (.int .i64 d.num) (.int .i64 d.den) (.string d.name) (.slice A1 d.ms.length n1) (.slice A2 d.bys.length n2) (.slice A3 ks.length n3)) w.heap.size 35 (ndC d (.slice A1 d.ms.length n1) (.slice A2 d.bys.length n2) (.slice A3 ks.length n3))) := ⟨put11_blk HR.out⟩
    have HA : Box (Below w.heap.size w (put11 w2 w.heap.size (.int .i64 d.kind) (.int .i64 d.fn) (.int .i64 d.win) (.int .i64 d.off) (.int .i64 d.k) (.int .i64 d.num) (.int .i64 d.den) (.string d.name) (.slice A1 d.ms.length n1) (.slice A2 d.bys.length n2) (.slice A3 ks.length n3)) ∧ TreeF (put11 w2 w.heap.size (.int .i64 d.kind) (.int .i64 d.fn) (.int .i64 d.win) (.int .i64 d.off) (.int .i64 d.k) (.int .i64 d.num) (.int .i64 d.den) (.string d.name) (.slice A1 d.ms.length n1) (.slice A2 d.bys.length n2) (.slice A3 ks.length n3)) (w.heap.size + 1) (.node d ks) (.slice A1 d.ms.length n1, .slice A2 d.bys.length n2, .slice A3 ks.length n3)) := ⟨HO.out.trans (put11_below (Nat.le_refl _) ..), HT.out.far (put11_only ..) (by omega)⟩
    show bodyPost _ _ _ _ _ (put11 w2 w.heap.size (.int .i64 d.kind) (.int .i64 d.fn) (.int .i64 d.win) (.int .i64 d.off) (.int .i64 d.k) (.int .i64 d.num) (.int .i64 d.den) (.string d.name) (.slice A1 d.ms.length n1) (.slice A2 d.bys.length n2) (.slice A3 ks.length n3))
    generalize (put11 w2 w.heap.size (.int .i64 d.kind) (.int .i64 d.fn) (.int .i64 d.win) (.int .i64 d.off) (.int .i64 d.k) (.int .i64 d.num) (.int .i64 d.den) (.string d.name) (.slice A1 d.ms.length n1) (.slice A2 d.bys.length n2) (.slice A3 ks.length n3)) = WF at HF HA ⊢
    clear HR HT HO z0 z1 z2 z3 z4 z5 z6 z7 z8 z9 z10 zf
    obtain ⟨e0, e1, e2, e3, e4, e5, e6, e7, e8, e9, e10⟩ := blk11 HF.out
    simp only [Nat.zero_add] at e1 e2 e3 e4 e5 e6 e7 e8 e9 e10
    have ef := HF.out.frozen
    refine bodyPost_ret (v := .agg (ndC d (.slice A1 d.ms.length n1) (.slice A2 d.bys.length n2) (.slice A3 ks.length n3))) (by simp [results, Tryz.results6, go_sem, e0, e1, e2, e3, e4, e5, e6, e7, e8, e9, e10, ef]) rfl ?_
    obtain ⟨y1, y2, y3⟩ := HD.out
    exact ⟨.node d ks, (.slice A1 d.ms.length n1, .slice A2 d.bys.length n2, .slice A3 ks.length n3), rfl, HA.out.2.lower (by omega), y1, y2, y3, HA.out.1⟩
   ·have hT2 := Box.mk (HT.out.1 hcc)
    have hc3 : ¬ 1 = c1 := by omega
    have hc4 : 1 < c1 := by omega
    go_enter Tryz.func6, Tryz.ntmps6
    have HP : Box (Blk ((w.alloc (.cells zeroC 35)).alloc (.cells #[.string ⟨#[99, 112, 117]⟩] 9)) w.heap.size 35 zeroC ∧ Below w.heap.size w ((w.alloc (.cells zeroC 35)).alloc (.cells #[.string ⟨#[99, 112, 117]⟩] 9))) := ⟨(Blk.new _ _ _).alloc _, bel2 _ _ _⟩
    have HI : Box (IntsP ((w.alloc (.cells zeroC 35)).alloc (.cells #[.string ⟨#[99, 112, 117]⟩] 9)) (.slice (some ⟨b, off + 1, none⟩) l.length (c1 - 1)) l) := ⟨IntsP.belo hT2.out (bel2 _ _ _)⟩
    have HS : Box (StrsL ((w.alloc (.cells zeroC 35)).alloc (.cells #[.string ⟨#[99, 112, 117]⟩] 9)) (.slice (some ⟨w.heap.size + 1, 0, none⟩) 1 1) ns1) := ⟨SeqP.of_blk (n := 1) (size := 1) (Blk.newAt _ _ (by simp)) rfl (by omega) (by simp)⟩
    go_wp2_with fail
    (with_reducible refine (make_any (.slice (some ⟨b, off + 1, none⟩) l.length (c1 - 1)) (.slice (some ⟨w.heap.size + 1, 0, none⟩) 1 1) l ns1 5 _ HI.out HS.out ns1_ok (by decide) (by decide) (by omega) (by omega)).mono ?_)
    rintro e w2 ⟨t, s, rfl, ht8, hgd8, hd8, hn8, ho8⟩
    obtain ⟨d, ks⟩ := t
    obtain ⟨mv, bv, kv⟩ := s
    obtain ⟨A1, n1, rfl, -⟩ := ht8.form.1
    obtain ⟨A2, n2, rfl, -⟩ := ht8.form.2.1
    obtain ⟨A3, n3, rfl, -⟩ := ht8.form.2.2
    simp only [Tree.d]
    have HR := Box.mk (HP.out.1.below ho8)
    have HT := Box.mk (ht8.lower (B' := w.heap.size + 1) (by simp))
    have HO := Box.mk (HP.out.2.trans (ho8.mono HP.out.2.size))
    have HD := Box.mk (And.intro (good_sub (ns' := ns3) ns1_sub hgd8) (And.intro hd8 hn8))
    clear ht8 hgd8 hd8 hn8 ho8 HP
    obtain ⟨z0, z1, z2, z3, z4, z5, z6, z7, z8, z9, z10⟩ := blk11 HR.out
    simp only [Nat.zero_add] at z1 z2 z3 z4 z5 z6 z7 z8 z9 z10
    have zf := HR.out.frozen
    go_wp2_with fail
    have HF : Box (Blk (put11 w2 w.heap.size (.int .i64 d.kind) (.int .i64 d.fn) (.int .i64 d.win) (.int .i64 d.off) (.int .i64 d.k) (.int .i64 d.num) (.int .i64 d.den) (.string d.name) (.slice A1 d.ms.length n1) (.slice A2 d.bys.length n2) (.slice A3 ks.length n3)) w.heap.size 35 (ndC d (.slice A1 d.ms.length n1) (.slice A2 d.bys.length n2) (.slice A3 ks.length n3))) := ⟨put11_blk HR.out⟩
    have HA : Box (Below w.heap.size w (put11 w2 w.heap.size (.int .i64 d.kind) (.int .i64 d.fn) (.int .i64 d.win) (.int .i64 d.off) (.int .i64 d.k) (.int .i64 d.num) (.int .i64 d.den) (.string d.name) (.slice A1 d.ms.length n1) (.slice A2 d.bys.length n2) (.slice A3 ks.length n3)) ∧ TreeF (put11 w2 w.heap.size (.int .i64 d.kind) (.int .i64 d.fn) (.int .i64 d.win) (.int .i64 d.off) (.int .i64 d.k) (.int .i64 d.num) (.int .i64 d.den) (.string d.name) (.slice A1 d.ms.length n1) (.slice A2 d.bys.length n2) (.slice A3 ks.length n3)) (w.heap.size + 1) (.node d ks) (.slice A1 d.ms.length n1, .slice A2 d.bys.length n2, .slice A3 ks.length n3)) := ⟨HO.out.trans (put11_below (Nat.le_refl _) ..), HT.out.far (put11_only ..) (by omega)⟩
    show bodyPost _ _ _ _ _ (put11 w2 w.heap.size (.int .i64 d.kind) (.int .i64 d.fn) (.int .i64 d.win) (.int .i64 d.off) (.int .i64 d.k) (.int .i64 d.num) (.int .i64 d.den) (.string d.name) (.slice A1 d.ms.length n1) (.slice A2 d.bys.length n2) (.slice A3 ks.length n3))
    generalize (put11 w2 w.heap.size (.int .i64 d.kind) (.int .i64 d.fn) (.int .i64 d.win) (.int .i64 d.off) (.int .i64 d.k) (.int .i64 d.num) (.int .i64 d.den) (.string d.name) (.slice A1 d.ms.length n1) (.slice A2 d.bys.length n2) (.slice A3 ks.length n3)) = WF at HF HA ⊢
    clear HR HT HO z0 z1 z2 z3 z4 z5 z6 z7 z8 z9 z10 zf
    obtain ⟨e0, e1, e2, e3, e4, e5, e6, e7, e8, e9, e10⟩ := blk11 HF.out
    simp only [Nat.zero_add] at e1 e2 e3 e4 e5 e6 e7 e8 e9 e10
    have ef := HF.out.frozen
    refine bodyPost_ret (v := .agg (ndC d (.slice A1 d.ms.length n1) (.slice A2 d.bys.length n2) (.slice A3 ks.length n3))) (by simp [results, Tryz.results6, go_sem, e0, e1, e2, e3, e4, e5, e6, e7, e8, e9, e10, ef]) rfl ?_
    obtain ⟨y1, y2, y3⟩ := HD.out
    exact ⟨.node d ks, (.slice A1 d.ms.length n1, .slice A2 d.bys.length n2, .slice A3 ks.length n3), rfl, HA.out.2.lower (by omega), y1, y2, y3, HA.out.1⟩
  ·have hq1 : (x.tmod 2 == 0) = false := by simpa using hq
   go_enter Tryz.func6, Tryz.ntmps6
   have HP : Box (Blk ((w.alloc (.cells zeroC 35)).alloc (.cells #[.string ⟨#[99, 112, 117]⟩, .string ⟨#[109, 101, 109]⟩, .string ⟨#[97]⟩] 9)) w.heap.size 35 zeroC ∧ Below w.heap.size w ((w.alloc (.cells zeroC 35)).alloc (.cells #[.string ⟨#[99, 112, 117]⟩, .string ⟨#[109, 101, 109]⟩, .string ⟨#[97]⟩] 9))) := ⟨(Blk.new _ _ _).alloc _, bel2 _ _ _⟩
   have HI : Box (IntsP ((w.alloc (.cells zeroC 35)).alloc (.cells #[.string ⟨#[99, 112, 117]⟩, .string ⟨#[109, 101, 109]⟩, .string ⟨#[97]⟩] 9)) (.slice (some ⟨b, off, none⟩) (l.length + 1) c1) (x :: l)) := ⟨IntsP.belo HI0.out (bel2 _ _ _)⟩
   have HS : Box (StrsL ((w.alloc (.cells zeroC 35)).alloc (.cells #[.string ⟨#[99, 112, 117]⟩, .string ⟨#[109, 101, 109]⟩, .string ⟨#[97]⟩] 9)) (.slice (some ⟨w.heap.size + 1, 0, none⟩) 3 3) ns3) := ⟨SeqP.of_blk (n := 3) (size := 1) (Blk.newAt _ _ (by simp)) rfl (by omega) (by simp)⟩
   go_wp2_with fail
   (with_reducible refine (make_any (.slice (some ⟨b, off, none⟩) (l.length + 1) c1) (.slice (some ⟨w.heap.size + 1, 0, none⟩) 3 3) (x :: l) ns3 5 _ HI.out HS.out ns3_ok (by decide) (by decide) (by omega) (by omega)).mono ?_)
   rintro e w2 ⟨t, s, rfl, ht8, hgd8, hd8, hn8, ho8⟩
   obtain ⟨d, ks⟩ := t
   obtain ⟨mv, bv, kv⟩ := s
   obtain ⟨A1, n1, rfl, -⟩ := ht8.form.1
   obtain ⟨A2, n2, rfl, -⟩ := ht8.form.2.1
   obtain ⟨A3, n3, rfl, -⟩ := ht8.form.2.2
   simp only [Tree.d]
   have HR := Box.mk (HP.out.1.below ho8)
   have HT := Box.mk (ht8.lower (B' := w.heap.size + 1) (by simp))
   have HO := Box.mk (HP.out.2.trans (ho8.mono HP.out.2.size))
   have HD := Box.mk (And.intro (good_sub (ns' := ns3) (fun _ h => h) hgd8) (And.intro hd8 hn8))
   clear ht8 hgd8 hd8 hn8 ho8 HP
   obtain ⟨z0, z1, z2, z3, z4, z5, z6, z7, z8, z9, z10⟩ := blk11 HR.out
   simp only [Nat.zero_add] at z1 z2 z3 z4 z5 z6 z7 z8 z9 z10
   have zf := HR.out.frozen
   go_wp2_with fail
   have HF : Box (Blk (put11 w2 w.heap.size (.int .i64 d.kind) (.int .i64 d.fn) (.int .i64 d.win) (.int .i64 d.off) (.int .i64 d.k) (.int .i64 d.num) (.int .i64 d.den) (.string d.name) (.slice A1 d.ms.length n1) (.slice A2 d.bys.length n2) (.slice A3 ks.length n3)) w.heap.size 35 (ndC d (.slice A1 d.ms.length n1) (.slice A2 d.bys.length n2) (.slice A3 ks.length n3))) := ⟨put11_blk HR.out⟩
   have HA : Box (Below w.heap.size w (put11 w2 w.heap.size (.int .i64 d.kind) (.int .i64 d.fn) (.int .i64 d.win) (.int .i64 d.off) (.int .i64 d.k) (.int .i64 d.num) (.int .i64 d.den) (.string d.name) (.slice A1 d.ms.length n1) (.slice A2 d.bys.length n2) (.slice A3 ks.length n3)) ∧ TreeF (put11 w2 w.heap.size (.int .i64 d.kind) (.int .i64 d.fn) (.int .i64 d.win) (.int .i64 d.off) (.int .i64 d.k) (.int .i64 d.num) (.int .i64 d.den) (.string d.name) (.slice A1 d.ms.length n1) (.slice A2 d.bys.length n2) (.slice A3 ks.length n3)) (w.heap.size + 1) (.node d ks) (.slice A1 d.ms.length n1, .slice A2 d.bys.length n2, .slice A3 ks.length n3)) := ⟨HO.out.trans (put11_below (Nat.le_refl _) ..), HT.out.far (put11_only ..) (by omega)⟩
   show bodyPost _ _ _ _ _ (put11 w2 w.heap.size (.int .i64 d.kind) (.int .i64 d.fn) (.int .i64 d.win) (.int .i64 d.off) (.int .i64 d.k) (.int .i64 d.num) (.int .i64 d.den) (.string d.name) (.slice A1 d.ms.length n1) (.slice A2 d.bys.length n2) (.slice A3 ks.length n3))
   generalize (put11 w2 w.heap.size (.int .i64 d.kind) (.int .i64 d.fn) (.int .i64 d.win) (.int .i64 d.off) (.int .i64 d.k) (.int .i64 d.num) (.int .i64 d.den) (.string d.name) (.slice A1 d.ms.length n1) (.slice A2 d.bys.length n2) (.slice A3 ks.length n3)) = WF at HF HA ⊢
   clear HR HT HO z0 z1 z2 z3 z4 z5 z6 z7 z8 z9 z10 zf
   obtain ⟨e0, e1, e2, e3, e4, e5, e6, e7, e8, e9, e10⟩ := blk11 HF.out
   simp only [Nat.zero_add] at e1 e2 e3 e4 e5 e6 e7 e8 e9 e10
   have ef := HF.out.frozen
   refine bodyPost_ret (v := .agg (ndC d (.slice A1 d.ms.length n1) (.slice A2 d.bys.length n2) (.slice A3 ks.length n3))) (by simp [results, Tryz.results6, go_sem, e0, e1, e2, e3, e4, e5, e6, e7, e8, e9, e10, ef]) rfl ?_
   obtain ⟨y1, y2, y3⟩ := HD.out
   exact ⟨.node d ks, (.slice A1 d.ms.length n1, .slice A2 d.bys.length n2, .slice A3 ks.length n3), rfl, HA.out.2.lower (by omega), y1, y2, y3, HA.out.1⟩
end
end
end Go.Proofs.YtpgdijbfkahepaaGreatDoor
